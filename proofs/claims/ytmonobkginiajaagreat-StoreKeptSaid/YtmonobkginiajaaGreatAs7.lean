/- packed. -/
import Derived.Shelf.Sort.Plain
import Derived.Shelf.Slices.In.SortNone
import Derived.Sort.OwnSortedInts
import Derived.Test.YtmonobkginiajaaGreatAs6
set_option linter.all false
set_option maxRecDepth 100000
set_option maxHeartbeats 8000000
namespace Go.Proofs.YtmonobkginiajaaGreat
open Go.Proofs.Tryz
open Value renaming string→U2,slice→U3,int→U5,bool→U6,tuple→U8
open Ending renaming returned→BY
open IntKind renaming i64→By
open Obj renaming cells→WF
open Go renaming World→YB,Calls→eq
open List renaming replicate→fd
namespace Sh
open Go.RowKit Pk Dk Pg
structure Zc(c:C)(n:Nat)(a:St)(K:Nat):Prop where
 g:Good c n
 R:js c.d n c.ep c.slot c.bj c.parts
 e:∃k,a=(c.bY n).pad k
 bc:c.d.calls<=40*K
 be:c.ep<=K
section
variable{c:C}{n:Nat}{a:St}{K:Nat}
theorem Zc.more(z:Zc c n a K){K':Nat}(h:K<=K'):Zc c n a K':=⟨z.g,z.R,z.e,by have:=z.bc;omega,by have:=z.be;omega⟩
theorem Zc.read(z:Zc c n a K)(l:Int):c.aP n l=a.aP l:=by
 obtain⟨k,e⟩:=z.e;rw[xM z.g,e];unfold St.aP;rw[Oz]
theorem Zc.ep0(z:Zc c n a K)(hK:K<=1000000000000):0<=c.ep/\c.ep<=1099511627776:=by have:=z.g.ep;omega
theorem Zc.calls(z:Zc c n a K)(hK:K<=1000000000000):c.d.calls<=3999999999999999900/\c.d.bu<=9223372036854775807:=by
 have:=z.bc;have:=z.g.arm
 constructor<;>omega
theorem Zc.tab(z:Zc c n a K)(k:Nat):c.table.getD k 0<=1024:=by
 have hm:c.m.length<=1024:=by rw[z.g.ml];unfold fU;omega
 by_cases hk:k<c.table.length
 .simp only[List.getD,aH hk,jB];have:=z.g.ti _ (jS hk);omega
 .simp only[List.getD];rw[gH (by omega)];show(0:Int)<=1024;omega
theorem Zc.new(z:Zc c n a K)(p:pu):Zc (c.bZ n p).1 n (a.bZ p).1 (K+1)/\(c.bZ n p).2=(a.bZ p).2:=by
 obtain⟨k,ek⟩:=z.e;obtain⟨k',ep⟩:=pad_new (c.bY n) k p;rw[<-ek]at ep;obtain⟨g1,g2,g3,g4,g5,g6⟩:=Xh z.g p;have rK:=Ox c n p;exact⟨⟨g1,by rw[rK.1,rK.2.1,rK.2.2.1,rK.2.2.2.1];exact Ow z.g z.R _,⟨k',by rw[ep,g2]⟩,by have:=z.bc;omega,by rw[rK.2.2.1];have:=z.be;omega⟩,by rw[ep];exact g3⟩
theorem Zc.write(z:Zc c n a K)(l:Int)(p:pu):Zc (c.aG n l p).1 n (a.aG l p).1 (K+1)/\(c.aG n l p).2=(a.aG l p).2:=by
 obtain⟨k,ek⟩:=z.e;have ep:=TG (c.bY n) k l p;rw[<-ek]at ep;obtain⟨g1,g2,g3,g4⟩:=Oq z.g l p;have rK:=Ii c n l p;exact⟨⟨g1,by rw[rK.1,rK.2.1,rK.2.2.1,rK.2.2.2.1];exact Ih z.g z.R _ _,⟨k,by rw[ep,g2]⟩,by have:=z.bc;omega,by rw[rK.2.2.1];have:=z.be;omega⟩,by rw[ep];exact g3⟩
theorem Zc.drop(z:Zc c n a K)(l:Int):Zc (c.aV l).1 n (a.aV l).1 K/\(c.aV l).2=(a.aV l).2:=by
 obtain⟨k,ek⟩:=z.e;have ep:=Xz (c.bY n) k l;rw[<-ek]at ep;obtain⟨g1,g2,g3,g4,g5,g6⟩:=Tt z.g l;have rK:(c.aV l).1.ep=c.ep/\(c.aV l).1.slot=c.slot:=by
  unfold C.aV
  split<;>exact⟨rfl,rfl⟩
 exact⟨⟨g1,by rw[g4,g5,g6,rK.1,rK.2];exact z.R,⟨k,by rw[ep,g2]⟩,by rw[g4];exact z.bc,by rw[rK.1];exact z.be⟩,by rw[ep];exact g3⟩
theorem Zc.abort(z:Zc c n a K):Zc c.cq n {a with now:=jr a.bj} K:=by
 obtain⟨k,ek⟩:=z.e;obtain⟨g1,g2,g3⟩:=On z.g;exact⟨g1,by show js c.d n c.ep c.slot c.bj c.parts;exact z.R,⟨0,by rw[rI,g2,ek];rfl⟩,z.bc,z.be⟩
theorem Zc.bj(z:Zc c n a K):c.bj.length<=512:=by have:=z.R.ro.2.2.2.1;omega
theorem Zc.kx(z:Zc c n a K)(tl:c.table.length<=512)(hK:K<=1000000000000):Zc (c.aQ n).1 n a.aQ.1 (K+1)/\(c.aQ n).2=a.aQ.2:=by
 obtain⟨k,ek⟩:=z.e;have hbe:=z.be;have hae2:a.free=(c.bY n).free:=by rw[ek,Ca]
 have OJ:a.eJ=(c.bY n).eJ:=by rw[ek,XA]
 by_cases hf:(c.bY n).free<cU (c.bY n).eJ.length
 .rw[J5 z.g hf,show a.aQ=(a,11) by unfold St.aQ;rw[hae2,OJ,if_pos hf]];obtain⟨t1,t2⟩:=Fg z.g;exact⟨⟨t1,by show js c.d n c.ep c.slot c.bj c.parts;exact z.R,⟨_,by rw[ek,t2,pad_pad]⟩,by show c.d.calls<=_;have:=z.bc;omega,by show c.ep<=_;omega⟩,rfl⟩
 .obtain⟨c',d1,d2,d3,d4,d5,d6,d7,d8⟩:=J6 z.g z.R (by omega) tl hf;rw[d1,show a.aQ=({a with now:=jr a.eJ,bj:=a.eJ,ep:=a.ep+1},0) by unfold St.aQ;rw[hae2,OJ,if_neg hf]];exact⟨⟨d2,d3,⟨0,by rw[rI,d6,OJ,ek];rfl⟩,by show c'.d.calls<=_;have:=z.bc;omega,by show c'.ep<=_;rw[d8];omega⟩,rfl⟩
end
section
variable{w:YB}{x:X}{c:C}{n:Nat}{a:St}{K:Nat}
theorem OM(h:At w x n c)(z:Zc c n a K)(hK:K<=1000000000000)(l:Int)(s:rd)(hs:s.size<=9223372036854775807):
  eq prog 147 #[sp x.b,l,U2 s] w λe w'=>e=BY (U5 By (a.aG l s.data.toList).2)/\∃c',At w' x n c'/\Zc c' n (a.aG l s.data.toList).1 (K+1)/\ag x.fp w w':=by
 have zw:=z.write l s.data.toList;rw[<-zw.2];exact(Oi h l s hs (z.ep0 hK) (by have:=(z.calls hK).1;omega) (z.calls hK).2 z.tab).mono λe w' ⟨r,A,o⟩=>⟨r,_,A,zw.1,o⟩
theorem TM(h:At w x n c)(z:Zc c n a K)(l:Int):
  eq prog 228 #[sp x.b,l] w λe w'=>e=BY (U8 #[U2 ⟨(a.aP l).1.toArray⟩,U5 By (a.aP l).2])/\i7 w w':=by
 rw[<-z.read l];exact Sh.ph h l
theorem ON(h:At w x n c)(z:Zc c n a K):
  eq prog 101 #[sp x.b] w λe w'=>e=BY (U6 true)/\∃c',zK w w' x n c'/\Zc c' n {a with now:=jr a.bj} K:=
 (Om h z.bj).mono λe w' ⟨r,p⟩=>⟨r,_,p,z.abort⟩
theorem J9(h:At w x n c)(z:Zc c n a K)(hK:K<=1000000000000):
  eq prog 100 #[sp x.b] w λe w'=>e=BY a.aQ.2/\∃c',zK w w' x n c'/\Zc c' n a.aQ.1 (K+1):=by
 have hm:c.m.length<=1024:=by rw[z.g.ml];unfold fU;omega
 have zc:=z.kx h.tl hK;rw[<-zc.2];exact(J8 h z.g.br (z.ep0 hK).1 (λy hy=>by have:=z.g.ti y hy;omega) z.g.sl (z.calls hK).1 (z.calls hK).2 (Rt.lP z.R.ro) (λhf he=>by
  obtain⟨mT,P,e,_,_,_,_,_,t6,t7⟩:=qA z.g h.tl hf;rw[e];exact⟨by rw[t6];exact t7,t6⟩)).mono λe w' ⟨r,p⟩=>⟨r,_,p,zc.1⟩
end
structure QS where
 a:St
 l:List Fr
 hand:Nat
def QS.ps(q:QS)(c:C):PS:=⟨c,q.l,q.hand⟩
def QS.turn(s:QS):QS:={s with hand:=(s.hand+1) % s.l.length}
def QS.kt:Nat->QS->QS×Int
 |0,s=>(s,-1)
 |m+1,s=>
  if 0<(kA s.l s.hand).held then QS.kt m s.turn
  else if(kA s.l s.hand).used=true then QS.kt m {s.turn with l:=s.l.set s.hand {kA s.l s.hand with used:=false}}
  else(s.turn,(s.hand:Int))
def QS.aN(s:QS):QS×Int:=
 if 0<=Jm (λf=>decide (f.ao<0)) s.l then(s,Jm (λf=>decide (f.ao<0)) s.l)else s.kt (2*s.l.length+1)
def QS.cA(s:QS)(k:Nat):QS×Int:=
 if(kA s.l k).cF=true then
  if(s.a.aG (kA s.l k).ao (kA s.l k).gI.data.toList).2=0 then({s with a:=(s.a.aG (kA s.l k).ao (kA s.l k).gI.data.toList).1,l:=s.l.set k {kA s.l k with cF:=false}},0)
  else({s with a:=(s.a.aG (kA s.l k).ao (kA s.l k).gI.data.toList).1},(s.a.aG (kA s.l k).ao (kA s.l k).gI.data.toList).2)
 else(s,0)
def QS.bh(s:QS)(p:Int):QS×rd×Int:=
 if 0<=findF s.l p then
  ({s with l:=s.l.set (findF s.l p).toNat {kA s.l (findF s.l p).toNat with held:=(kA s.l (findF s.l p).toNat).held+1,used:=true}},(kA s.l (findF s.l p).toNat).gI,0)
 else if(s.a.aP p).2≠0 then(s,⟨#[]⟩,(s.a.aP p).2)
 else if s.aN.2<0 then(s.aN.1,⟨#[]⟩,12)
 else if(s.aN.1.cA s.aN.2.toNat).2≠0 then((s.aN.1.cA s.aN.2.toNat).1,⟨#[]⟩,(s.aN.1.cA s.aN.2.toNat).2)
 else({(s.aN.1.cA s.aN.2.toNat).1 with l:=(s.aN.1.cA s.aN.2.toNat).1.l.set s.aN.2.toNat ⟨p,⟨(s.a.aP p).1.toArray⟩,1,false,true⟩},⟨(s.a.aP p).1.toArray⟩,0)
def QS.iS(s:QS)(p:Int):Option (Nat×Fr):=
 if findF s.l p<0 then none else match s.l[(findF s.l p).toNat]? with
  |none=>none
  |some f=>if f.held=0 then none else some ((findF s.l p).toNat,f)
def QS.iT(s:QS)(p:Int):QS×Int:=match s.iS p with
 |none=>(s,16)
 |some (k,f)=>({s with l:=s.l.set k {f with held:=f.held-1}},0)
def uf(s:rd):rd:=⟨(ft s.data.toList 232).toArray⟩
def QS.gm(s:QS)(p:Int)(b:rd):QS×Int:=
 if 232<b.size then(s,4)else match s.iS p with
 |none=>(s,16)
 |some (k,f)=>({s with l:=s.l.set k {f with gI:=uf b,cF:=true,used:=true}},0)
def QS.dN(s:QS)(p:Int):QS×rd×Int:=
 if(s.bh p).2.2≠0 then((s.bh p).1,⟨#[]⟩,(s.bh p).2.2)else(((s.bh p).1.iT p).1,(s.bh p).2.1,0)
def QS.eg(s:QS)(p:Int)(b:rd):QS×Int:=
 if 232<b.size then(s,4)else if(s.bh p).2.2≠0 then((s.bh p).1,(s.bh p).2.2)else((((s.bh p).1.gm p b).1.iT p).1,0)
def QS.aV(s:QS)(p:Int):QS×Int:=
 if 0<=findF s.l p/\0<(kA s.l (findF s.l p).toNat).held then(s,16)
 else if(s.a.aV p).2≠0 then({s with a:=(s.a.aV p).1},(s.a.aV p).2)
 else if 0<=findF s.l p then({s with a:=(s.a.aV p).1,l:=s.l.set (findF s.l p).toNat Fr.nil},0)
 else({s with a:=(s.a.aV p).1},0)
def QS.wg(s:QS):Nat:=s.l.countP λf=>decide (0<f.held)
def QS.bl(s:QS):Nat->QS×Int
 |0=>(s,0)
 |k+1=>if(s.bl k).2≠0 then s.bl k else(s.bl k).1.cA k
def QS.aQ(s:QS):QS×Int:=
 if 0<s.wg then(s,16)
 else if(s.bl s.l.length).2≠0 then s.bl s.l.length
 else({(s.bl s.l.length).1 with a:=(s.bl s.l.length).1.a.aQ.1},(s.bl s.l.length).1.a.aQ.2)
def QS.cq(s:QS):QS:={s with a:={s.a with now:=jr s.a.bj},l:=fd s.l.length Fr.nil}
def QS.bZ(s:QS)(p:pu):QS×Int×Int:=({s with a:=(s.a.bZ p).1},(s.a.bZ p).2)
theorem Il(c:C):∀(m:Nat) (q:QS),(q.ps c).kt m=((q.kt m).1.ps c,(q.kt m).2)
 |0,_=>rfl
 |m+1,q=>by
  unfold PS.kt QS.kt;show(if 0<(kA q.l q.hand).held then _ else _)=_
  split
  .exact Il c m q.turn
  .show(if(kA q.l q.hand).used=true then _ else _)=_
   split
   .exact Il c m {q.turn with l:=q.l.set q.hand {kA q.l q.hand with used:=false}}
   .rfl
theorem xW(c:C)(q:QS):(q.ps c).aN=(q.aN.1.ps c,q.aN.2):=by
 unfold PS.aN QS.aN;show(if 0<=Jm (λf=>decide (f.ao<0)) q.l then _ else _)=_
 split
 .rfl
 .exact Il c _ q
theorem Im(c:C)(q:QS)(p:Int):(q.ps c).iS p=q.iS p:=rfl
theorem let_ps(c:C)(q:QS)(p:Int):(q.ps c).iT p=((q.iT p).1.ps c,(q.iT p).2):=by
 unfold PS.iT QS.iT;rw[Im]
 cases q.iS p with
 |none=>rfl
 |some kf=>rfl
theorem OP:∀(m:Nat) (q:QS),(q.kt m).1.a=q.a/\(q.kt m).1.l.length=q.l.length
 |0,_=>⟨rfl,rfl⟩
 |m+1,q=>by
  unfold QS.kt
  split
  .exact OP m q.turn
  .split
   .have h:=OP m {q.turn with l:=q.l.set q.hand {kA q.l q.hand with used:=false}};exact⟨h.1,by rw[h.2,bV]⟩
   .exact⟨rfl,rfl⟩
theorem jX(q:QS):q.aN.1.a=q.a/\q.aN.1.l.length=q.l.length:=by
 unfold QS.aN
 split
 .exact⟨rfl,rfl⟩
 .exact OP _ q
variable{w:YB}{y:Y}{n K K':Nat}{q:QS}{l:List Fr}{f:Fr}
def ZP(w:YB)(y:Y)(n:Nat)(q:QS)(K:Nat):Prop:= ∃c,iR w y n (q.ps c)/\Zc c n q.a K
theorem ZP.below{w':YB}(h:ZP w y n q K)(hb:i7 w w'):ZP w' y n q K:=by
 obtain⟨c,A,z⟩:=h;exact⟨c,A.below hb,z⟩
theorem ZP.more(h:ZP w y n q K)(hk:K<=K'):ZP w y n q K':=by
 obtain⟨c,A,z⟩:=h;exact⟨c,A,z.more hk⟩
theorem oU{k:Nat}(h:l[k]?=some f):kA l k=f:=by unfold kA;rw[h];rfl
theorem OQ{c:C}(h:iR w y n (q.ps c))(z:Zc c n q.a K)(hK:K<=1000000000000)(k:Nat)(hf:q.l[k]?=some f)(hd:f.cF=true)(hs:f.gI.size<=1000):
  eq prog 99 #[pp y.pb,(k:Nat)] w λe w'=>e=BY (U5 By (q.cA k).2)/\ZP w' y n (q.cA k).1 (K+1)/\ag y.fp w w':=by
 have hk:k<q.l.length:=(aR.1 hf).1;have p1:w.cell? ⟨y.pb,1,none⟩=some (U3 (lc y.fg) q.l.length y.cp):=h.p1
 obtain⟨c0,c1,c2,c3,c4⟩:=h.Ef k f hf;rw[hd]at c3;have KW:=xh (λ(W:YB) (A:iR W y n (q.ps c))=>OM A.hs z hK f.ao f.gI (by omega));have AD:=xh h.drew;have HF:=xh hf;obtain⟨R,hR⟩:∃R,q.a.aG f.ao f.gI.data.toList=R:=⟨_,rfl⟩
 have hB:q.cA k=if R.2=0 then({q with a:=R.1,l:=q.l.set k {f with cF:=false}},0)else({q with a:=R.1},R.2):=by
  unfold QS.cA;rw[oU hf,if_pos hd,hR]
 rw[hB];rw[hR]at KW;obtain⟨Ra,Re⟩:=R;obtain⟨Q2,hQ⟩:∃Q2,(if Re=0 then(({q with a:=Ra,l:=q.l.set k {f with cF:=false}}:QS),(0:Int))else({q with a:=Ra},Re))=Q2:=⟨_,rfl⟩;rw[hQ];have HQ:=xh hQ;have S0:=xh (show(λW'=>W'.cell? (lc y.pb)=some (lc y.x.b:li)/\W'.cell? ⟨y.fg,k*5,none⟩=some (f.ao:li)/\W'.cell? ⟨y.fg,k*5+1,none⟩=some (U2 f.gI)) w.drew from⟨AD.o.p0,(AD.o.Ef k f hf).1,(AD.o.Ef k f hf).2.1⟩)
 unfold pp sp at *;go_in;go_wp;refine kw (λW'=>W'.cell? (lc y.pb)=some (lc y.x.b:li)/\W'.cell? ⟨y.fg,k*5,none⟩=some (f.ao:li)/\W'.cell? ⟨y.fg,k*5+1,none⟩=some (U2 f.gI)) (S0.o) (λau=>?_);refine dP [(0,18),(1,19),(2,20),(3,21),(4,22),(5,23),(6,24),(7,25),(8,26),(9,27),(10,28),(11,29)] ?_
 iterate 12 refine bJ ?_
 refine dI 12 30 λK hK=>?_;go_simp
 go_at_call 147
 go_call (KW.o _ AD.o) as e w5 ⟨rfl,c5,a5,z5,o5⟩;have P5:=(xh (λ(w1 w2:YB) (c':C) (A1:iR w1 y n (q.ps c)) (A:At w2 y.x n c') (o:ag y.x.fp w1 w2)=>(show iR w2 y n (q.ps c')/\ag y.fp w1 w2 from A1.same A o))).o w.drew w5 c5 AD.o a5 o5;have A5:=xh P5.1;have O5:=xh<|(xh<|(ag.refl y.fp w).drew).o.trans P5.2;have Z5:=xh z5;obtain⟨d0,d1,d2,d3,d4⟩:=A5.o.Ef k f HF.o;refine bn hK (⟨A5.o.p0,d0,d1⟩) (λau=>?_);refine dP [(13,6)] ?_
 iterate 1 refine bJ ?_
 refine jp ?_ _
 by_cases he:Re=0
 .subst he;have HR:=xh<|HQ.o.symm.trans (if_pos rfl);obtain⟨z0,B0,qq⟩:=A5.o.gm k 3 (by omega) {f with cF:=false} (U6 false) HF.o rfl;have AZ:=xh B0;have OZ:=xh<|O5.o.trans qq;go_wp2;go_ret;exact⟨by rw[HR.o];rfl,by rw[HR.o];exact⟨c5,AZ.o,Z5.o⟩,OZ.o⟩
 .have HR:=xh<|HQ.o.symm.trans (if_neg he);have hq:(Re==0)=false:=i4 he
  go_wp2;go_ret;exact⟨by rw[HR.o];rfl,by rw[HR.o];exact⟨c5,A5.o,Z5.o⟩,O5.o⟩
theorem Ka(h:ZP w y n q K)(hK:K<=1000000000000)(k:Nat)(hk:k<q.l.length)(hs:∀f∈q.l,f.gI.size<=1000):
  eq prog 99 #[pp y.pb,(k:Nat)] w λe w'=>e=BY (U5 By (q.cA k).2)/\ZP w' y n (q.cA k).1 (K+1)/\ag y.fp w w':=by
 obtain⟨c,A,z⟩:=h;have hf:=ng hk
 by_cases hd:(kA q.l k).cF=true
 .exact OQ A z hK k hf hd (hs _ (aA hf))
 .unfold QS.cA;rw[if_neg hd];exact(N9 A k hf (by simpa using hd)).mono λe w' ⟨r,b⟩=>⟨r,⟨c,A.below b,z.more (by omega)⟩,.aj b⟩
theorem hold_go(h:ZP w y n q K)(hK:K<=1000000000000)(p:Int)(hk:findF q.l p= -1)(hr:(q.a.aP p).2=0)(k:Nat)(hv:q.aN.2=(k:Nat))(lO:k<q.l.length)(hs:∀f∈q.aN.1.l,f.gI.size<=1000):
  eq prog 213 #[pp y.pb,p] w λe w'=>e=BY (U8 #[U2 (q.bh p).2.1,U5 By (q.bh p).2.2])/\ZP w' y n (q.bh p).1 (K+1)/\ag y.fp w w':=by
 obtain⟨c,A,z⟩:=h;have KF:=xh<|jq A p;rw[show(q.ps c).l=q.l from rfl,hk]at KF;have HB:=xh (λw' (hb:i7 w w')=>A.below hb);have KR:=xh (λw' (hb:i7 w w')=>TM (A.below hb).hs z p);have KV:=xh (λw' (hb:i7 w w')=>Bv (A.below hb));rw[xW]at KV;rw[hr]at KR;rw[hv]at KV;have hvl:=(jX q).2;have Eh:=(jX q).1
 have hH:q.bh p=if(q.aN.1.cA k).2≠0 then((q.aN.1.cA k).1,⟨#[]⟩,(q.aN.1.cA k).2)else({(q.aN.1.cA k).1 with l:=(q.aN.1.cA k).1.l.set k ⟨p,⟨(q.a.aP p).1.toArray⟩,1,false,true⟩},⟨(q.a.aP p).1.toArray⟩,0):=by
  unfold QS.bh;rw[hk,gc,if_neg (by rw[hr];simp),hv,gc,show((k:Nat):Int).toNat=k by omega]
 rw[hH];generalize (q.a.aP p).1=R at *;generalize q.aN.1=V at *;have KB:=xh (λw' (h:ZP w' y n V K)=>Ka h hK k (by omega) hs);have zO:k<(V.cA k).1.l.length:=by
  unfold QS.cA
  split
  .split
   .show k<(V.l.set k _).length;rw[bV];omega
   .show k<V.l.length;omega
  .show k<V.l.length;omega
 generalize V.cA k=VB at *;obtain⟨B,be⟩:=VB;obtain⟨Q2,hQ⟩:∃Q2,(if be≠0 then(B,(⟨#[]⟩:rd),be)else(({B with l:=B.l.set k ⟨p,⟨R.toArray⟩,1,false,true⟩}:QS),⟨R.toArray⟩,0))=Q2:=⟨_,rfl⟩;rw[hQ];have HQ:=xh hQ;have HZ:=g9 (∀W,iR W y n (V.ps c)->ZP W y n V K) (λW h=>⟨c,h,by rw[Eh];exact z⟩)
 unfold pp sp at *;go_in;go_wp;go_call KF.o as e w1 ⟨rfl,aO⟩;have O1:=xh aO;have p0:=(HB.o w1 aO).p0;go_wp2_with fail;go_call (KR.o w1 O1.o) as e w2 ⟨rfl,cf⟩;have O2:=xh<|aC O1.o cf;go_wp2_with fail;go_call (KV.o w2 O2.o) as e w3 ⟨rfl,A3,o3⟩;have Z3:=xh<|HZ.o w3 A3;have o3:=xh<|(ag.aj (S:=y.fp) O2.o).trans o3
 go_wp2_with fail;go_call (KB.o w3 Z3.o) as e w4 ⟨rfl,z4,o4⟩;obtain⟨c4,A4,Z4⟩:=z4;have A4:=xh A4;have Z4:=xh Z4;have o4:=xh<|o3.o.trans o4
 by_cases he:be=0
 .subst he;have HR:=xh<|HQ.o.symm.trans (i8);have p1:w4.cell? ⟨y.pb,1,none⟩=some (U3 (lc y.fg) B.l.length y.cp):=A4.o.p1;have Q4:(k:Int)<(B.l.length:Int):=by omega
  obtain⟨f,HF⟩:∃f,Hid (B.l[k]?=some f):=⟨_,xh (aH zO)⟩;obtain⟨c0,c1,c2,c3,c4'⟩:=A4.o.Ef k f HF.o;obtain⟨z0,B0,q0⟩:=A4.o.gm k 0 (by omega) {f with ao:=p} p HF.o rfl;rw[ma]at z0 B0 q0;have g0:(B.l.set k {f with ao:=p})[k]?=some {f with ao:=p}:=by rw[eu zO]
  obtain⟨z1,B1,q1⟩:=B0.gm k 1 (by omega) {f with ao:=p,gI:=⟨R.toArray⟩} (U2 ⟨R.toArray⟩) g0 rfl;simp only[kP]at B1;have g1:(B.l.set k {f with ao:=p,gI:=⟨R.toArray⟩})[k]?=some {f with ao:=p,gI:=⟨R.toArray⟩}:=by rw[eu zO]
  obtain⟨z2,B2,q2⟩:=B1.gm k 2 (by omega) {f with ao:=p,gI:=⟨R.toArray⟩,held:=1} (U5 By 1) g1 rfl;simp only[kP]at B2;have g2:(B.l.set k {f with ao:=p,gI:=⟨R.toArray⟩,held:=1})[k]?=some {f with ao:=p,gI:=⟨R.toArray⟩,held:=1}:=by rw[eu zO]
  obtain⟨z3,B3,q3⟩:=B2.gm k 3 (by omega) {f with ao:=p,gI:=⟨R.toArray⟩,held:=1,cF:=false} (U6 false) g2 rfl;simp only[kP]at B3;have g3:(B.l.set k {f with ao:=p,gI:=⟨R.toArray⟩,held:=1,cF:=false})[k]?=some {f with ao:=p,gI:=⟨R.toArray⟩,held:=1,cF:=false}:=by rw[eu zO]
  obtain⟨z4,B4,q4⟩:=B3.gm k 4 (by omega) ⟨p,⟨R.toArray⟩,1,false,true⟩ (U6 true) g3 rfl;simp only[kP]at B4;have AZ:=xh B4;have OZ:=xh<|o4.o.trans ((((q0.trans q1).trans q2).trans q3).trans q4);go_wp2;go_ret2;exact⟨by rw[HR.o];rfl,by rw[HR.o];exact⟨c4,AZ.o,Z4.o⟩,OZ.o⟩
 .have HR:=xh<|HQ.o.symm.trans (if_pos he);have hq:(be==0)=false:=i4 he
  go_wp2;go_ret2;exact⟨by rw[HR.o];rfl,by rw[HR.o];exact⟨c4,A4.o,Z4.o⟩,o4.o⟩
def Fb(l:List Fr)(K:Nat):Prop:= ∀f∈l,0<=f.held/\f.held<=K/\f.gI.size<=1000
theorem Fb.set(h:Fb l K)(k:Nat)(hf:0<=f.held/\f.held<=K/\f.gI.size<=1000):Fb (l.set k f) K:=by
 intro g hg
 rcases vz hg with hg|rfl
 .exact h g hg
 .exact hf
theorem Fb.more(h:Fb l K)(hk:K<=K'):Fb l K':=λf hf=>by have:=h f hf;omega
theorem Fb.nil :0<=Fr.nil.held/\Fr.nil.held<=(K:Nat)/\Fr.nil.gI.size<=1000:=⟨ki _,by show(0:Int)<=_;omega,by decide⟩
theorem Cc :∀(m:Nat) (s:QS),s.hand<s.l.length->Fb s.l K->Fb (s.kt m).1.l K/\(s.kt m).1.hand<(s.kt m).1.l.length/\((s.kt m).2= -1\/∃k:Nat,(s.kt m).2=k/\k<s.l.length)
 |0,_,hl,hc=>⟨hc,hl,.inl rfl⟩
 |m+1,s,hl,hc=>by
  unfold QS.kt;have hm:=hc _ (aA (ng hl));have ht:(s.hand+1) % s.l.length<s.l.length:=sN _ (by omega)
  split
  .exact Cc m s.turn ht hc
  .split
   .have:=Cc m {s.turn with l:=s.l.set s.hand {kA s.l s.hand with used:=false}} (by rw[bV];exact ht) (hc.set _ hm);rw[bV]at this;exact this
   .exact⟨hc,ht,.inr ⟨s.hand,rfl,hl⟩⟩
theorem uO(s:QS)(hl:s.hand<s.l.length)(hc:Fb s.l K):Fb s.aN.1.l K/\s.aN.1.hand<s.aN.1.l.length/\(s.aN.2= -1\/∃k:Nat,s.aN.2=k/\k<s.l.length):=by
 unfold QS.aN
 split
 .refine⟨hc,hl,?_⟩
  rcases Hx (λf=>decide (f.ao<0)) s.l with e|⟨k,f,e,hf,_⟩
  .exact .inl e
  .exact .inr ⟨k,e,(aR.1 hf).1⟩
 .exact Cc _ s hl hc
theorem td(h:ZP w y n q K)(hb:Fb q.l K)(hK:K<=1000000000000)(p:Int):
  eq prog 213 #[pp y.pb,p] w λe w'=>e=BY (U8 #[U2 (q.bh p).2.1,U5 By (q.bh p).2.2])/\ZP w' y n (q.bh p).1 (K+1)/\ag y.fp w w':=by
 have h':=h;obtain⟨c,A,z⟩:=h
 rcases ix q.l p with e|⟨k,f,e,hf,_,_⟩
 .by_cases hr:(q.a.aP p).2=0
  .obtain⟨v1,v2,v3⟩:=uO q A.lh hb
   rcases v3 with v3|⟨k,v3,hk⟩
   .unfold QS.bh;rw[e,gc,if_neg (by rw[hr];simp),g8];refine(Tr A p e (by rw[show(q.ps c).c=c from rfl,z.read];exact hr) (by rw[xW];show q.aN.2<0;omega)).mono λe w' ⟨r,A',o⟩=>⟨r,?_,o⟩;rw[xW]at A';exact⟨c,A',by rw[(jX q).1];exact z.more (by omega)⟩
   .exact hold_go h' hK p e hr k v3 hk (λf hf=>(v1 f hf).2.2)
  .unfold QS.bh;rw[e,gc,if_pos hr];have hb:=W7 A p e (by rw[show(q.ps c).c=c from rfl,z.read];exact hr);rw[show(q.ps c).c=c from rfl,z.read]at hb;exact hb.mono λe w' ⟨h1,h2⟩=>⟨h1,⟨c,A.below h2,z.more (by omega)⟩,.aj h2⟩
 .unfold QS.bh;rw[e,g8,show((k:Nat):Int).toNat=k from by omega,oU hf];exact(WZ A p k e hf (by have:=hb f (aA hf);omega)).mono λe w' ⟨r,A',o⟩=>⟨r,⟨c,A',z.more (by omega)⟩,o⟩
variable{w:YB}{y:Y}{n K:Nat}{s:PS}{q:QS}
theorem eV:(prog.info? 5).map (λi=>(i.zero,i.size,i.bytes))=some (some (U5 .u8 0),1,1):=by kernel_rfl
theorem XC(n:Nat)(h1:n<=140737488355328)(w:YB):
  (Instr.makeSlice 150 n n).run prog w=.ok (U3 (lc w.heap.size) n n) (w.alloc (WF (dR (fd n 0)).toArray 5)):=by
 obtain⟨i0,hi,lz,jK,kl⟩:=info_parts eV;rw[(run_make (P:=prog) w 150 5 i0 (U5 .u8 0) underlying150 hi lz By By n n (by omega) (ki _) (by rw[kl];omega) (by omega)),jK];have e:madeCells (Value.int .u8 0).cells (((n:Int).toNat)*1)=(dR (fd n 0)).toArray:=by
  show madeCells #[Value.int .u8 0] (n*1)=_;rw[Nat.mul_one,iW];simp[dR,bv]
 rw[e];rfl
theorem full_eq(b:rd):b++(⟨(fd (232-b.size) (0:UInt8)).toArray⟩:rd)=uf b:=by
 apply jQ;unfold uf ft;rw[GH];simp
theorem Cd{b:rd}(h:b.size<=232):(uf b).size=232:=by
 show(ft b.data.toList 232).toArray.size=232;unfold ft;simp;omega
theorem set_in(h:iR w y n s)(p:Int)(b:rd)(hb:b.size<=232){k:Nat}{f:Fr}(hh:s.iS p=some (k,f)):
  eq prog 219 #[pp y.pb,p,U2 b] w λe w'=>e=BY (U5 By 0)/\iR w' y n {s with l:=s.l.set k {f with gI:=uf b,cF:=true,used:=true}}/\ag y.fp w w':=by
 have KH:=xh<|Bs h p;rw[hh]at KH;obtain⟨hf,_,_⟩:=Bt hh;have lO:k<s.l.length:=(aR.1 hf).1;have HF:=xh hf;have HA:=xh (λW (hb:i7 w W)=>h.below hb);have hbI:¬(232:Int)<(b.size:Int):=by omega
 obtain⟨m,hm⟩:∃m,232-b.size=m:=⟨_,rfl⟩;have em:IntKind.i64.wrap (232-(b.size:Int))=(m:Int):=by rw[show(232:Int)-(b.size:Int)=(m:Int) by omega];exact dl
 have hmk:=λW=>XC m (by omega) W;have HCV:=xh (λ(W:YB)=>(cu (P:=prog) (W.alloc (WF (dR (fd m 0)).toArray 5)) 150 9 5 underlying150 underlying5 underlying9 ⟨W.heap.size,0,none⟩ m m (fd m 0) (by simp) (bm (aF.new W 5 (dR (fd m 0)).toArray) 0 _ (by intro j u hu;rw[bq];simpa using hu))));obtain⟨FB,hFB⟩:∃FB,uf b=FB:=⟨_,rfl⟩;have HCAT:=xh<|full_eq b;rw[hFB]at HCAT;rw[hFB]
 rw[hm]at HCAT
 have oq:¬9223372036854775807<b.size+(⟨(fd m (0:UInt8)).toArray⟩:rd).size:=by
  have:(⟨(fd m (0:UInt8)).toArray⟩:rd).size=m:=by show(fd m (0:UInt8)).toArray.size=m;simp
  omega
 generalize (⟨(fd m (0:UInt8)).toArray⟩:rd)=ZZ at *;generalize (dR (fd m (0:UInt8))).toArray=ZC at *;unfold pp vT at *;go_in;go_wp;go_call KH.o as e w1 ⟨rfl,aO⟩;have A1:=xh<|HA.o _ (ae aO (WF ZC 5));have O1':=xh<|ae aO (WF ZC 5);go_wp2_with fail;rw[HCV.o w1];generalize (w1.alloc (WF ZC 5))=w2 at *
 have hcat:=HCAT.o;obtain⟨c0,c1,c2,c3,c4⟩:=A1.o.Ef k f HF.o;obtain⟨z1,B1,q1⟩:=A1.o.gm k 1 (by omega) {f with gI:=FB} (U2 (FB)) HF.o rfl;have g1:(s.l.set k {f with gI:=FB})[k]?=some {f with gI:=FB}:=by rw[eu lO]
 obtain⟨z2,B2,q2⟩:=B1.gm k 3 (by omega) {f with gI:=FB,cF:=true} (U6 true) g1 rfl;simp only[kP]at B2;have g2:(s.l.set k {f with gI:=FB,cF:=true})[k]?=some {f with gI:=FB,cF:=true}:=by rw[eu lO]
 obtain⟨z3,B3,q3⟩:=B2.gm k 4 (by omega) {f with gI:=FB,cF:=true,used:=true} (U6 true) g2 rfl;simp only[kP]at B3;have AZ:=xh B3;have OZ:=xh<|(ag.aj (S:=y.fp) O1'.o).trans ((q1.trans q2).trans q3);go_wp2;go_ret;exact aI ⟨AZ.o,OZ.o⟩
theorem set_out(h:iR w y n s)(p:Int)(b:rd)(hb:b.size<=232)(hh:s.iS p=none):
  eq prog 219 #[pp y.pb,p,U2 b] w λe w'=>e=BY (U5 By 16)/\i7 w w':=by
 have KH:=xh<|Bs h p;rw[hh]at KH;have hbI:¬(232:Int)<(b.size:Int):=by omega
 unfold pp vT at *;go_in;go_wp;go_call KH.o as e w1 ⟨rfl,aO⟩;have O1:=xh aO;go_wp2;go_ret;exact aI O1.o
theorem set_big(w:YB)(pb:Nat)(p:Int)(b:rd)(hb:232<b.size):
  eq prog 219 #[pp pb,p,U2 b] w λe w'=>e=BY (U5 By 4)/\i7 w w':=by
 have hbI:(232:Int)<(b.size:Int):=by omega
 unfold pp;go_in;go_wp2;go_ret;exact aI (xh<|i5 w).o
theorem XD(h:ZP w y n q K)(p:Int)(b:rd):
  eq prog 219 #[pp y.pb,p,U2 b] w λe w'=>e=BY (U5 By (q.gm p b).2)/\ZP w' y n (q.gm p b).1 K/\ag y.fp w w':=by
 obtain⟨c,A,z⟩:=h;unfold QS.gm
 by_cases hb:232<b.size
 .rw[if_pos hb];exact(set_big w y.pb p b hb).mono λe w' ⟨r,o⟩=>⟨r,⟨c,A.below o,z⟩,.aj o⟩
 .rw[if_neg hb]
  cases hh:q.iS p with
  |none=>exact(set_out A p b (by omega) (by rw[Im,hh])).mono λe w' ⟨r,o⟩=>⟨r,⟨c,A.below o,z⟩,.aj o⟩
  |some kf=>exact(set_in A p b (by omega) (k:=kf.1) (f:=kf.2) (by rw[Im,hh])).mono λe w' ⟨r,A',o⟩=>⟨r,⟨c,A',z⟩,o⟩
theorem Kb(h:ZP w y n q K)(hb:Fb q.l K)(hK:K<=1000000000000)(p:Int):
  eq prog 214 #[pp y.pb,p] w λe w'=>e=BY (U5 By (q.iT p).2)/\ZP w' y n (q.iT p).1 K/\ag y.fp w w':=by
 obtain⟨c,A,z⟩:=h;have hl:=let_any A p (λf hf=>by have:=hb f hf;omega);rw[let_ps]at hl;refine hl.mono λe w' ⟨r,A',o⟩=>⟨r,⟨c,A',?_⟩,o⟩;have:(q.iT p).1.a=q.a:=by
  unfold QS.iT
  cases q.iS p with
  |none=>rfl
  |some kf=>rfl
 rw[this];exact z
variable{q:QS}{k K n g g3 g4 g5:Nat}{w:YB}{y:Y}
theorem TN(b:rd)(q:Nat)(w:YB)(s0:rd)(B:aF w q 9 #[U2 s0]):
  eq prog 168 #[U2 b,lc q] w λe w'=>e=BY (U5 By 0)/\aF w' q 9 #[U2 b]/\ag [q] w w':=by
 have q0:=B.bi 0;have q1:=B.frozen 0 (by simp);have B1:=g9 (aF (w.setCell ⟨q,0,none⟩ (U2 b)) q 9 #[U2 b]) (B.cw 0 (U2 b));go_in;go_wp2;go_ret;exact aI ⟨B1.o,(xh<|(ag.refl [q] w).setCell (p:=⟨q,0,none⟩) (by simp) (U2 b)).o⟩
theorem Ce(h:Fb q.l K)(hk:k<q.l.length):Fb (q.cA k).1.l K/\(q.cA k).1.l.length=q.l.length:=by
 have hm:=h _ (aA (ng hk));unfold QS.cA
 split
 .split
  .exact⟨h.set _ hm,bV⟩
  .exact⟨h,rfl⟩
 .exact⟨h,rfl⟩
def Full(a:St):Prop:= ∀l,(a.aP l).1.length<=232
theorem XE{l:pu}(h:l.length<=232):(⟨l.toArray⟩:rd).size<=1000:=by
 show l.toArray.size<=1000;simp;omega
theorem XF(h:Fb q.l K)(hl:q.hand<q.l.length)(hf:Full q.a)(p:Int):Fb (q.bh p).1.l (K+1)/\(q.bh p).1.l.length=q.l.length:=by
 unfold QS.bh
 rcases ix q.l p with e|⟨k,f,e,hk,_,_⟩
 .rw[e,gc]
  split
  .exact⟨h.more (by omega),rfl⟩
  .obtain⟨v1,v2,v3⟩:=uO q hl h;have va:=jX q
   split
   .exact⟨v1.more (by omega),va.2⟩
   .rcases v3 with v3|⟨k,v3,hk⟩
    .omega
    .rw[v3,show((k:Nat):Int).toNat=k by omega];obtain⟨b1,b2⟩:=Ce (k:=k) v1 (by omega)
     split
     .exact⟨b1.more (by omega),by rw[b2,va.2]⟩
     .exact⟨(b1.more (by omega)).set _ ⟨by show(0:Int)<=1;omega,by show(1:Int)<=_;omega,XE (hf p)⟩,by show(List.set _ _ _).length=_;rw[bV,b2,va.2]⟩
 .rw[e,g8,show((k:Nat):Int).toNat=k by omega,oU hk];have hm:=h _ (aA hk);exact⟨(h.more (by omega)).set _ ⟨by show 0<=f.held+1;omega,by show f.held+1<=_;omega,hm.2.2⟩,bV⟩
theorem Fo{p:Int}{f:Fr}(h:q.iS p=some (k,f)):q.l[k]?=some f/\f.held≠0/\findF q.l p=k:=by
 unfold QS.iS at h
 rcases ix q.l p with e|⟨j,g,e,hg,_,_⟩
 .rw[e,g8]at h;cases h
 .rw[e,gc,show((j:Nat):Int).toNat=j by omega,hg]at h;dsimp only at h
  split at h
  .cases h
  .rename_i fF;obtain⟨rfl,rfl⟩:j=k/\g=f:=by simpa using h
   exact⟨hg,fF,e⟩
theorem let_l(h:Fb q.l K)(p:Int):Fb (q.iT p).1.l K/\(q.iT p).1.l.length=q.l.length/\(q.iT p).1.a=q.a/\(q.iT p).1.hand=q.hand:=by
 unfold QS.iT
 cases hh:q.iS p with
 |none=>exact⟨h,rfl,rfl,rfl⟩
 |some kf=>
  obtain⟨k,f⟩:=kf;obtain⟨h1,h2,_⟩:=Fo hh;have hm:=h _ (aA h1);exact⟨h.set k ⟨by show 0<=f.held-1;omega,by show f.held-1<=_;omega,hm.2.2⟩,bV,rfl,rfl⟩
theorem set_l(h:Fb q.l K)(p:Int)(b:rd):Fb (q.gm p b).1.l K/\(q.gm p b).1.l.length=q.l.length/\(q.gm p b).1.a=q.a/\(q.gm p b).1.hand=q.hand:=by
 unfold QS.gm
 split
 .exact⟨h,rfl,rfl,rfl⟩
 .rename_i hb
  cases hh:q.iS p with
  |none=>exact⟨h,rfl,rfl,rfl⟩
  |some kf=>
   obtain⟨k,f⟩:=kf;obtain⟨h1,h2,_⟩:=Fo hh;have hm:=h _ (aA h1);exact⟨h.set k ⟨hm.1,hm.2.1,by show(uf b).size<=_;rw[Cd (by omega)];omega⟩,bV,rfl,rfl⟩
theorem OR(h:ZP w y n q K)(hb:Fb q.l K)(hK:K<=1000000000000)(p:Int)(he:(q.bh p).2.2≠0):
  eq prog 167 #[pp y.pb,p,.func (Fn.func 168) #[] #[lc g]] w λe w'=>e=BY (U5 By (q.bh p).2.2)/\ZP w' y n (q.bh p).1 (K+1)/\ag y.fp w w':=by
 have KH:=xh<|td h hb hK p
 generalize q.bh p=R at *;unfold pp at *;go_in;go_wp;go_call KH.o as e w1 ⟨rfl,A1,o1⟩;have A1:=xh A1;have o1:=xh o1;go_wp2;go_ret;exact aI ⟨A1.o,o1.o⟩
theorem OT(h:ZP w y n q K)(hb:Fb q.l K)(hK:K<=1000000000000)(p:Int)(he:(q.bh p).2.2≠0):
  eq prog 167 #[pp y.pb,p,.func (Fn.func 218) #[] #[lc g3,lc g4,lc g5]] w λe w'=>e=BY (U5 By (q.bh p).2.2)/\ZP w' y n (q.bh p).1 (K+1)/\ag y.fp w w':=by
 have KH:=xh<|td h hb hK p
 generalize q.bh p=R at *;unfold pp at *;go_in;go_wp;go_call KH.o as e w1 ⟨rfl,A1,o1⟩;have A1:=xh A1;have o1:=xh o1;go_wp2;go_ret;exact aI ⟨A1.o,o1.o⟩
theorem Kc(h:ZP w y n q K)(hb:Fb q.l K)(hK:K<=999999999999)(hl:q.hand<q.l.length)(XG:Full q.a)(p:Int)(he:(q.bh p).2.2=0)(s0:rd)(B:aF w g 9 #[U2 s0])(hg:g∉y.fp):
  eq prog 167 #[pp y.pb,p,.func (Fn.func 168) #[] #[lc g]] w λe w'=>e=BY (U5 By 0)/\ZP w' y n ((q.bh p).1.iT p).1 (K+1)/\ag (g::y.fp) w w'/\aF w' g 9 #[U2 (q.bh p).2.1]:=by
 have KH:=xh<|td h hb (by omega) p;rw[he]at KH;have vR:=(XF hb hl XG p).1;generalize q.bh p=R at *;have KL:=xh (λw' (A:ZP w' y n R.1 (K+1))=>Kb A vR (by omega) p);have HQ:=xh hg;have HB:=xh B;have HD:=xh (λ(w1 w2:YB) (A:ZP w1 y n R.1 (K+1)) (o:ag [g] w1 w2)=>(show ZP w2 y n R.1 (K+1)from by
  obtain⟨c,A,z⟩:=A;exact⟨c,A.only o (λx hx hm=>hg (by rw[az.1 hm]at hx;exact hx)),z⟩))
 unfold pp at *;go_in;go_wp;go_call KH.o as e w1 ⟨rfl,A1,o1⟩;have KG:=xh<|TN R.2.1 g w1 s0 (HB.o.only o1 HQ.o);have A1:=xh A1;have o1:=xh o1;go_wp2_with fail;go_call KG.o as e w2 ⟨rfl,B2,o2⟩;have A2:=xh<|HD.o _ _ A1.o o2;have B2:=xh B2
 have o2:=xh<|(o1.o.mono (λx hx _=>bK g hx)).trans (o2.mono (λx hx _=>by rw[az.1 hx];exact gS ..));go_wp2_with fail;go_call (KL.o _ A2.o) as e w3 ⟨rfl,A3,o3⟩;have A3:=xh A3;have B3:=xh<|B2.o.only o3 HQ.o;have o3:=xh<|o2.o.trans (o3.mono (λx hx _=>bK g hx));go_wp2;go_ret;exact aI ⟨A3.o,o3.o,B3.o⟩
theorem wh(h:ZP w y n q K)(p:Int)(b u:rd)(B3:aF w g3 34 #[pp y.pb])(B4:aF w g4 3 #[p])(B5:aF w g5 9 #[U2 b]):
  eq prog 218 #[U2 u,lc g3,lc g4,lc g5] w λe w'=>e=BY (U5 By (q.gm p b).2)/\ZP w' y n (q.gm p b).1 K/\ag y.fp w w':=by
 have KS:=xh<|XD h p b;have c3:=B3.bi 0;have c4:=B4.bi 0;have c5:=B5.bi 0;generalize q.gm p b=R at *;unfold pp at *;go_in;go_wp;go_call KS.o as e w1 ⟨rfl,A1,o1⟩;have A1:=xh A1;have o1:=xh o1;go_wp2;go_ret;exact aI ⟨A1.o,o1.o⟩
theorem Kd(h:ZP w y n q K)(hb:Fb q.l K)(hK:K<=999999999999)(hl:q.hand<q.l.length)(XG:Full q.a)(p:Int)(he:(q.bh p).2.2=0)(b:rd)(B3:aF w g3 34 #[pp y.pb])(B4:aF w g4 3 #[p])(B5:aF w g5 9 #[U2 b])(h3:g3∉y.fp)(h4:g4∉y.fp)(h5:g5∉y.fp):
  eq prog 167 #[pp y.pb,p,.func (Fn.func 218) #[] #[lc g3,lc g4,lc g5]] w λe w'=>e=BY (U5 By ((q.bh p).1.gm p b).2)/\ZP w' y n (((q.bh p).1.gm p b).1.iT p).1 (K+1)/\ag y.fp w w':=by
 have KH:=xh<|td h hb (by omega) p;rw[he]at KH;have hbc:=(set_l ((XF hb hl XG p).1) p b).1;have KC:=xh (λ(w1:YB) (A:ZP w1 y n (q.bh p).1 (K+1)) (u:rd) (o:ag y.fp w w1)=>wh A p b u (B3.only o h3) (B4.only o h4) (B5.only o h5));generalize q.bh p=R at *;generalize R.1.gm p b=R2 at *;have KL:=xh (λw' (A:ZP w' y n R2.1 (K+1))=>Kb A hbc (by omega) p);clear h hb B3 B4 B5 hbc he h3 h4 h5;unfold pp at *
 go_in;go_wp;go_call KH.o as e w1 ⟨rfl,A1,o1⟩;have KG:=xh<|KC.o w1 A1 R.2.1 o1;have o1:=xh o1;go_wp2_with fail;go_call KG.o as e w2 ⟨rfl,A2,o2⟩;have A2:=xh A2;have o2:=xh<|o1.o.trans o2;go_wp2_with fail;go_call (KL.o _ A2.o) as e w3 ⟨rfl,A3,o3⟩;have A3:=xh A3;have o3:=xh<|o2.o.trans o3;go_wp2;go_ret;exact aI ⟨A3.o,o3.o⟩
theorem TO(h:ZP w y n q K)(hb:Fb q.l K)(hK:K<=999999999999)(XG:Full q.a)(p:Int)(he:(q.bh p).2.2=0):
  eq prog 121 #[pp y.pb,p] w λe w'=>e=BY (U8 #[U2 (q.bh p).2.1,U5 By 0])/\ZP w' y n ((q.bh p).1.iT p).1 (K+1)/\ag y.fp w w':=by
 have O0:=xh<|i6 w (WF #[U2 ⟨#[]⟩] 9);have NQ:=xh (show w.heap.size∉y.fp from λhm=>by
  obtain⟨c,A,z⟩:=h;have:=A.lt _ hm;omega)
 have KW:=xh<|Kc (h.below O0.o) hb hK (by obtain⟨c,A,z⟩:=h;exact A.lh) XG p he _ (xh<|aF.new w 9 #[U2 ⟨#[]⟩]).o NQ.o;generalize (q.bh p).2.1=r at *;generalize ((q.bh p).1.iT p).1=S2 at *;unfold pp at *;go_in;go_wp;go_call KW.o as e w1 ⟨rfl,A1,o1,B1⟩;have A1:=xh A1;have o1:=xh<|(ag.aj (S:=w.heap.size::y.fp) O0.o).trans o1;have q0:=B1.bi 0;go_wp2;go_ret2
 exact aI ⟨A1.o,o1.o.mono (λg hg ef=>by simp at hg;rcases hg with rfl|hg;(· omega);exact hg)⟩
theorem XH(h:ZP w y n q K)(hb:Fb q.l K)(hK:K<=999999999999)(p:Int)(he:(q.bh p).2.2≠0):
  eq prog 121 #[pp y.pb,p] w λe w'=>e=BY (U8 #[U2 ⟨#[]⟩,U5 By (q.bh p).2.2])/\ZP w' y n (q.bh p).1 (K+1)/\ag y.fp w w':=by
 have O0:=xh<|i6 w (WF #[U2 ⟨#[]⟩] 9);have NQ:=xh (show w.heap.size∉y.fp from λhm=>by
  obtain⟨c,A,z⟩:=h;have:=A.lt _ hm;omega)
 have KW:=xh<|OR (g:=w.heap.size) (h.below O0.o) hb (by omega) p he;generalize (q.bh p)=R at *;unfold pp at *;go_in;go_wp;go_call KW.o as e w1 ⟨rfl,A1,o1⟩;have B1:=(xh<|aF.new w 9 #[U2 ⟨#[]⟩]).o.only o1 NQ.o;have A1:=xh A1;have o1:=xh<|(ag.aj (S:=y.fp) O0.o).trans o1;have q0:=B1.bi 0;go_wp2;go_ret2;exact aI ⟨A1.o,o1.o⟩
theorem TP(h:ZP w y n q K)(hb:Fb q.l K)(hK:K<=999999999999)(XG:Full q.a)(p:Int)(b:rd)(hs:b.size<=232)(he:(q.bh p).2.2=0):
  eq prog 176 #[pp y.pb,p,U2 b] w λe w'=>e=BY (U5 By ((q.bh p).1.gm p b).2)/\ZP w' y n (((q.bh p).1.gm p b).1.iT p).1 (K+1)/\ag y.fp w w':=by
 obtain⟨g3,hg3⟩:∃g,w.heap.size=g:=⟨_,rfl⟩;have b3:=aF.new w 34 #[pp y.pb];have e3:(w.alloc (WF #[pp y.pb] 34)).heap.size=g3+1:=by rw[<-hg3];simp
 have b4:=aF.new (w.alloc (WF #[pp y.pb] 34)) 3 #[p];have k4:=ae (Below.refl (w.alloc (WF #[pp y.pb] 34)).heap.size _) (WF #[p] 3);have e4:((w.alloc (WF #[pp y.pb] 34)).alloc (WF #[p] 3)).heap.size=g3+2:=by rw[<-hg3];simp
 have b5:=aF.new ((w.alloc (WF #[pp y.pb] 34)).alloc (WF #[p] 3)) 9 #[U2 b];have k5:=ae (Below.refl ((w.alloc (WF #[pp y.pb] 34)).alloc (WF #[p] 3)).heap.size _) (WF #[U2 b] 9);have B3:=aF.below (aF.below b3 k4 b3.lt) k5 (aF.below b3 k4 b3.lt).lt;have B4:=aF.below b4 k5 b4.lt;rw[e3]at B4;rw[e4]at b5;rw[hg3]at B3;have OZ:=xh (ae (ae (i6 w (WF #[pp y.pb] 34)) (WF #[p] 3)) (WF #[U2 b] 9))
 have NQ:=xh (show ∀g,w.heap.size<=g->g∉y.fp from λg hg hm=>by
  obtain⟨c,A,z⟩:=h;have:=A.lt _ hm;omega)
 have KW:=xh<|Kd (h.below OZ.o) hb hK (by obtain⟨c,A,z⟩:=h;exact A.lh) XG p he b B3 B4 b5 (NQ.o _ (by omega)) (NQ.o _ (by omega)) (NQ.o _ (by omega));have Wo:¬(232:Int)<(b.size:Int):=by omega
 generalize ((q.bh p).1.gm p b).2=RR at *;generalize (((q.bh p).1.gm p b).1.iT p).1=SS at *;clear h hb he XG hs b3 b4 b5 B3 B4 e3 e4 k4 k5;unfold pp at *;go_in;go_wp;go_call KW.o as e w1 ⟨rfl,A1,o1⟩;have A1:=xh A1;have o1:=xh<|(ag.aj (S:=y.fp) OZ.o).trans o1;go_wp2;go_ret;exact aI ⟨A1.o,o1.o⟩
theorem XI(h:ZP w y n q K)(hb:Fb q.l K)(hK:K<=999999999999)(XG:Full q.a)(p:Int)(b:rd)(hs:b.size<=232)(he:(q.bh p).2.2≠0):
  eq prog 176 #[pp y.pb,p,U2 b] w λe w'=>e=BY (U5 By (q.bh p).2.2)/\ZP w' y n (q.bh p).1 (K+1)/\ag y.fp w w':=by
 obtain⟨g3,hg3⟩:∃g,w.heap.size=g:=⟨_,rfl⟩;have b3:=aF.new w 34 #[pp y.pb];have e3:(w.alloc (WF #[pp y.pb] 34)).heap.size=g3+1:=by rw[<-hg3];simp
 have b4:=aF.new (w.alloc (WF #[pp y.pb] 34)) 3 #[p];have k4:=ae (Below.refl (w.alloc (WF #[pp y.pb] 34)).heap.size _) (WF #[p] 3);have e4:((w.alloc (WF #[pp y.pb] 34)).alloc (WF #[p] 3)).heap.size=g3+2:=by rw[<-hg3];simp
 have b5:=aF.new ((w.alloc (WF #[pp y.pb] 34)).alloc (WF #[p] 3)) 9 #[U2 b];have k5:=ae (Below.refl ((w.alloc (WF #[pp y.pb] 34)).alloc (WF #[p] 3)).heap.size _) (WF #[U2 b] 9);have B3:=aF.below (aF.below b3 k4 b3.lt) k5 (aF.below b3 k4 b3.lt).lt;have B4:=aF.below b4 k5 b4.lt;rw[e3]at B4;rw[e4]at b5;rw[hg3]at B3;have OZ:=xh (ae (ae (i6 w (WF #[pp y.pb] 34)) (WF #[p] 3)) (WF #[U2 b] 9))
 have NQ:=xh (show ∀g,w.heap.size<=g->g∉y.fp from λg hg hm=>by
  obtain⟨c,A,z⟩:=h;have:=A.lt _ hm;omega)
 have KW:=xh<|OT (g3:=g3) (g4:=g3+1) (g5:=g3+2) (h.below OZ.o) hb (by omega) p he;have Wo:¬(232:Int)<(b.size:Int):=by omega
 generalize (q.bh p).2.2=RR at *;generalize (q.bh p).1=SS at *;clear h hb he XG hs b3 b4 b5 B3 B4 e3 e4 k4 k5;unfold pp at *;go_in;go_wp;go_call KW.o as e w1 ⟨rfl,A1,o1⟩;have A1:=xh A1;have o1:=xh<|(ag.aj (S:=y.fp) OZ.o).trans o1;go_wp2;go_ret;exact aI ⟨A1.o,o1.o⟩
theorem XJ(p:Int)(b:rd)(hs:232<b.size):
  eq prog 176 #[pp y.pb,p,U2 b] w λe w'=>e=BY (U5 By 4)/\i7 w w':=by
 have Wo:(232:Int)<(b.size:Int):=by omega
 unfold pp at *;go_in;go_wp2;go_ret;exact aI (xh<|ae (ae (i6 w (WF #[pp y.pb] 34)) (WF #[p] 3)) (WF #[U2 b] 9)).o
end Sh
namespace Sh
open Go.RowKit Pk Dk Pg
section
variable{c:C}{n:Nat}{a:St}{K:Nat}
theorem Zc.full(z:Zc c n a K):Full a:=by
 intro l
 by_cases h:(a.aP l).2=0
 .have hr:=z.read l;rw[xM z.g]at hr;rw[<-hr]at h ⊢;exact Nat.le_of_eq (JQ z.g h)
 .unfold St.aP at h ⊢
  cases ha:a.at l with
  |none=>exact aW _
  |some u=>rw[ha]at h;exact absurd rfl h
theorem Zc.tl(z:Zc c n a K)(h:a.now.length<=512):c.table.length<=512:=by
 obtain⟨k,e⟩:=z.e;rw[e]at h;have h2:((c.bY n).pad k).now.length=c.table.length+k:=by
  unfold St.pad C.bY;simp
 omega
end
structure Hq(q:QS)(n K:Nat):Prop where
 z:∃c,Zc c n q.a K
 f:Fb q.l K
 l1:1<=q.l.length
 l2:q.l.length<=32
 lh:q.hand<q.l.length
 nl:q.a.now.length<=512
section
variable{q:QS}{n K:Nat}
theorem Hq.full(h:Hq q n K):Full q.a:=by
 obtain⟨c,z⟩:=h.z;exact z.full
theorem Hq.more(h:Hq q n K){K':Nat}(hk:K<=K'):Hq q n K':=by
 obtain⟨c,z⟩:=h.z;exact⟨⟨c,z.more hk⟩,h.f.more hk,h.l1,h.l2,h.lh,h.nl⟩
theorem Hq.Io(h:Hq q n K){q':QS}{K':Nat}(ha:q'.a=q.a)(hk:K<=K')(hf:Fb q'.l K')(hl:q'.l.length=q.l.length)(hh:q'.hand<q.l.length):Hq q' n K':=by
 obtain⟨c,z⟩:=h.z;exact⟨⟨c,by rw[ha];exact z.more hk⟩,hf,by rw[hl];exact h.l1,by rw[hl];exact h.l2,by rw[hl];exact hh,by rw[ha];exact h.nl⟩
theorem Fp(a:St)(l:Int)(p:pu):(a.aG l p).1.now.length=a.now.length:=by
 unfold St.aG
 split
 .rfl
 .split
  .rfl
  .split
   .rfl
   .show(a.now.set _ _).length=_;rw[bV]
theorem Hq.XK(h:Hq q n K):Hq q.aN.1 n K/\(q.aN.2= -1\/∃k:Nat,q.aN.2=k/\k<q.l.length):=by
 obtain⟨v1,v2,v3⟩:=uO q h.lh h.f;have va:=jX q;exact⟨h.Io va.1 (ai _) v1 va.2 (by rw[<-va.2];exact v2),v3⟩
theorem TR(q:QS)(k:Nat):(q.cA k).1.hand=q.hand:=by
 unfold QS.cA
 split
 .split<;>rfl
 .rfl
theorem XL(q:QS)(k:Nat):(q.cA k).1.a.now.length=q.a.now.length:=by
 unfold QS.cA
 split
 .split
  .exact Fp _ _ _
  .exact Fp _ _ _
 .rfl
theorem Hq.back(h:Hq q n K)(k:Nat)(hk:k<q.l.length):Hq (q.cA k).1 n (K+1):=by
 obtain⟨b1,b2⟩:=Ce h.f hk;obtain⟨c,z⟩:=h.z;refine⟨?_,b1.more (by omega),by rw[b2];exact h.l1,by rw[b2];exact h.l2,by rw[b2,TR];exact h.lh,by rw[XL];exact h.nl⟩;unfold QS.cA
 split
 .split
  .exact⟨_,(z.write _ _).1⟩
  .exact⟨_,(z.write _ _).1⟩
 .exact⟨c,z.more (by omega)⟩
theorem Hq.put(h:Hq q n K)(k:Nat){f:Fr}(hf:0<=f.held/\f.held<=K/\f.gI.size<=1000):Hq {q with l:=q.l.set k f} n K:=
 h.Io rfl (ai _) (h.f.set k hf) bV h.lh
theorem Hq.hold(h:Hq q n K)(p:Int):Hq (q.bh p).1 n (K+1):=by
 unfold QS.bh
 rcases ix q.l p with e|⟨k,f,e,hk,_,_⟩
 .rw[e,gc]
  split
  .exact h.more (by omega)
  .obtain⟨v1,v3⟩:=h.XK;have va:=jX q
   split
   .exact v1.more (by omega)
   .rcases v3 with v3|⟨k,v3,hk⟩
    .omega
    .rw[v3,show((k:Nat):Int).toNat=k by omega];have hb:=v1.back k (by omega)
     split
     .exact hb
     .exact hb.put k ⟨by show(0:Int)<=1;omega,by show(1:Int)<=_;omega,XE (h.full p)⟩
 .rw[e,g8,show((k:Nat):Int).toNat=k by omega,oU hk];have hm:=h.f _ (aA hk);exact(h.more (by omega)).put k ⟨by show 0<=f.held+1;omega,by show f.held+1<=_;omega,hm.2.2⟩
theorem Hq.let_(h:Hq q n K)(p:Int):Hq (q.iT p).1 n K:=by
 obtain⟨a,b,c,d⟩:=let_l h.f p;exact h.Io c (ai _) a b (by rw[d];exact h.lh)
theorem Hq.set(h:Hq q n K)(p:Int)(b:rd):Hq (q.gm p b).1 n K:=by
 obtain⟨a,e,c,d⟩:=set_l h.f p b;exact h.Io c (ai _) a e (by rw[d];exact h.lh)
theorem Hq.get(h:Hq q n K)(p:Int):Hq (q.dN p).1 n (K+1):=by
 unfold QS.dN
 split
 .exact h.hold p
 .exact(h.hold p).let_ p
theorem Hq.put_(h:Hq q n K)(p:Int)(b:rd):Hq (q.eg p b).1 n (K+1):=by
 unfold QS.eg
 split
 .exact h.more (by omega)
 .split
  .exact h.hold p
  .exact((h.hold p).set p b).let_ p
theorem XM(a:St)(l:Int):(a.aV l).1.now.length=a.now.length:=by
 unfold St.aV
 split
 .show(a.now.set _ _).length=_;rw[bV]
 .rfl
theorem Hq.drop(h:Hq q n K)(p:Int):Hq (q.aV p).1 n K:=by
 obtain⟨c,z⟩:=h.z;have hd:Hq {q with a:=(q.a.aV p).1} n K:=⟨⟨_,(z.drop p).1⟩,h.f,h.l1,h.l2,h.lh,by show(q.a.aV p).1.now.length<=512;rw[XM];exact h.nl⟩;unfold QS.aV
 split
 .exact h
 .split
  .exact hd
  .split
   .exact hd.put _ Fb.nil
   .exact hd
theorem wi(q:QS)(i:Nat):q.bl (i+1)=if(q.bl i).2≠0 then q.bl i else(q.bl i).1.cA i:=rfl
theorem Hq.Cf(h:Hq q n K):∀i,i<=q.l.length->Hq (q.bl i).1 n (K+i)/\(q.bl i).1.l.length=q.l.length
 |0,_=>⟨h,rfl⟩
 |i+1,hi=>by
  obtain⟨h1,h2⟩:=h.Cf i (by omega);rw[wi]
  split
  .exact⟨h1.more (by omega),h2⟩
  .exact⟨h1.back i (by omega),by rw[(Ce h1.f (by omega)).2,h2]⟩
theorem old_len(a:St):(jr a.bj).length=a.bj.length:=by unfold jr;rw[bM]
theorem OU(a:St)(h:a.now.length<=512):a.aQ.1.now.length<=512:=by
 unfold St.aQ
 split
 .exact h
 .show(jr a.eJ).length<=512;unfold jr;rw[bM];have:=BM a;omega
theorem Hq.kx(h:Hq q n K)(hK:K<=999999999000):Hq q.aQ.1 n (K+40):=by
 unfold QS.aQ;obtain⟨b1,b2⟩:=h.Cf q.l.length (ai _);have l2:=h.l2
 split
 .exact h.more (by omega)
 .split
  .exact b1.more (by omega)
  .obtain⟨c,z⟩:=b1.z;exact⟨⟨_,((z.kx (z.tl b1.nl) (by omega)).1).more (by omega)⟩,b1.f.more (by omega),b1.l1,b1.l2,b1.lh,OU _ b1.nl⟩
theorem Hq.abort(h:Hq q n K):Hq q.cq n K:=by
 obtain⟨c,z⟩:=h.z;refine⟨⟨_,z.abort⟩,λf hf=>?_,by show 1<=(fd _ _).length;rw[eR];exact h.l1,by show(fd _ _).length<=32;rw[eR];exact h.l2,by show q.hand<(fd _ _).length;rw[eR];exact h.lh,?_⟩
 .rw[oP hf];exact Fb.nil
 .show(jr q.a.bj).length<=512;rw[old_len];obtain⟨k,e⟩:=z.e;have:=z.bj;rw[e];show(c.bj.map _).length<=512;rw[bM];exact this
theorem new_len(a:St)(p:pu)(h:a.now.length<=512):(a.bZ p).1.now.length<=512:=by
 unfold St.bZ
 split
 .exact h
 .split
  .exact h
  .rename_i hs;show(qz a.now a.slot _).length<=512;unfold qz
   split
   .rw[aT];simp;omega
   .rw[bV];exact h
theorem Hq.new(h:Hq q n K)(p:pu):Hq (q.bZ p).1 n (K+1):=by
 obtain⟨c,z⟩:=h.z;exact⟨⟨_,(z.new p).1⟩,h.f.more (by omega),h.l1,h.l2,h.lh,new_len _ _ h.nl⟩
end
theorem kY{α β:Type}(l:List α)(g:α->β)(k:Nat){a b:α}(h:l[k]?=some b)(e:g a=g b):(l.set k a).map g=l.map g:=by
 rw[sI];apply nM;intro i;rw[jj]
 split
 .rename_i hi;subst hi;rw[if_pos (by simpa using ((aR.1 h).1)),ir,h,e];rfl
 .rfl
theorem Ke{a:St}{p:Int}(h:(a.aP p).2=0):0<=p:=by
 by_cases hp:0<=p
 .exact hp
 .exfalso;unfold St.aP St.at at h;rw[if_neg hp]at h;exact absurd h (by decide)
variable{a:St}{l l':List Fr}{k:Nat}{f:Fr}{j:Int}
theorem pA{l:Int}(h:(a.at l).isSome=true):0<=l/\l.toNat<a.now.length:=by
 unfold St.at at h
 by_cases h0:0<=l
 .rw[if_pos h0]at h;refine⟨h0,?_⟩
  by_cases hl:l.toNat<a.now.length
  .exact hl
  .rw[gH (by omega)]at h
   cases h
 .rw[if_neg h0]at h;cases h
theorem wj{l:Int}:(a.aP l).2=0↔(a.at l).isSome=true:=by
 unfold St.aP
 cases h:a.at l with
 |none=>simp
 |some u=>simp
theorem nP{l:Int}{p:pu}(h:(a.aG l p).2=0)(j:Int):(a.aG l p).1.aP j=if j=l then(ft p 232,0)else a.aP j:=by
 unfold St.aG at h ⊢
 by_cases h1:232<p.length
 .rw[if_pos h1]at h;exact absurd h (by show(4:Int)≠0;decide)
 rw[if_neg h1]at h ⊢
 by_cases h2:¬(a.at l).isSome=true
 .rw[if_pos h2]at h;exact absurd h (by show(3:Int)≠0;decide)
 rw[if_neg h2]at h ⊢
 by_cases h3:gw (a.at l)=false/\a.free=0
 .rw[if_pos h3]at h;exact absurd h (by show(11:Int)≠0;decide)
 rw[if_neg h3];obtain⟨l0,l1⟩:=pA (Classical.not_not.1 h2);have hat:St.at {a with now:=a.now.set l.toNat (some (true,ft p 232))} j=if j=l then some (true,ft p 232)else a.at j:=by
  unfold St.at
  by_cases hj:j=l
  .subst hj;rw[if_pos l0,if_pos rfl];show((a.now.set j.toNat _)[j.toNat]?).getD none=_;rw[eu l1];rfl
  .rw[if_neg hj]
   by_cases h0:0<=j
   .rw[if_pos h0,if_pos h0];show((a.now.set l.toNat _)[j.toNat]?).getD none=_;rw[iu (by omega)]
   .rw[if_neg h0,if_neg h0]
 show St.aP {a with now:=a.now.set l.toNat (some (true,ft p 232))} j=_;unfold St.aP;rw[hat]
 by_cases hj:j=l
 .rw[if_pos hj,if_pos hj]
 .rw[if_neg hj,if_neg hj]
def QS.vw(q:QS)(j:Int):pu×Int:=if 0<=findF q.l j then((kA q.l (findF q.l j).toNat).gI.data.toList,0)else q.a.aP j
structure Vi(q:QS):Prop where
 un:∀(i j:Nat) (f h:Fr),q.l[i]?=some f->q.l[j]?=some h->f.ao=h.ao->0<=f.ao->i=j
 cl:∀f∈q.l,0<=f.ao->f.cF=false->q.a.aP f.ao=(f.gI.data.toList,0)
 ex:∀f∈q.l,0<=f.ao->(q.a.aP f.ao).2=0
 em:∀f∈q.l,f.ao<0->f.cF=false
 fl:∀f∈q.l,0<=f.ao->f.gI.size=232
theorem Ip(hf:l[k]?=some f)(h0:0<=f.ao)(un:∀(j:Nat) (h:Fr),l[j]?=some h->h.ao=f.ao->j=k):findF l f.ao=k:=by
 unfold findF;rw[gc];exact vS hf (by simp) (λj a hj hja=>by
  simp only[decide_eq_false_iff_not];intro e;have:=un j a hja e;omega)
theorem XN(h:j<0\/∀f∈l,f.ao≠j):findF l j= -1:=by
 unfold findF
 by_cases h0:j<0
 .rw[if_pos h0]
 .rw[if_neg h0];exact Br (λi a hi=>by
   simp only[decide_eq_false_iff_not];exact h.resolve_left h0 a (aA hi))
theorem eW{q:QS}(h:j<0\/∀f∈q.l,f.ao≠j):q.vw j=q.a.aP j:=by
 unfold QS.vw;rw[XN h,gc]
theorem Vi.jY{q:QS}(V:Vi q)(hf:q.l[k]?=some f)(h0:0<=f.ao):q.vw f.ao=(f.gI.data.toList,0):=by
 unfold QS.vw;rw[Ip hf h0 (λj h hj e=>V.un j k h f hj hf e (by omega)),g8,show((k:Nat):Int).toNat=k by omega,oU hf]
theorem iA(q:QS)(j:Int):(j<0\/∀f∈q.l,f.ao≠j)\/∃(k:Nat) (f:Fr),q.l[k]?=some f/\f.ao=j/\0<=j:=by
 by_cases h0:j<0
 .exact .inl (.inl h0)
 by_cases h:∃f∈q.l,f.ao=j
 .obtain⟨f,hf,e⟩:=h;obtain⟨k,hk⟩:=GU.1 hf;exact .inr ⟨k,f,hk,e,by omega⟩
 .exact .inl (.inr (λf hf e=>h ⟨f,hf,e⟩))
def pd(f:Fr):Int×rd×Bool:=(f.ao,f.gI,f.cF)
theorem Iq(e:l'.map pd=l.map pd)(hf:l[k]?=some f):∃f',l'[k]?=some f'/\f'.ao=f.ao/\f'.gI=f.gI/\f'.cF=f.cF:=by
 have:(l'.map pd)[k]?=(l.map pd)[k]?:=by rw[e]
 rw[ir,ir,hf]at this
 cases h':l'[k]? with
 |none=>rw[h']at this;cases this
 |some f'=>
  rw[h']at this;have:pd f'=pd f:=by simpa using this
  exact⟨f',rfl,congrArg Prod.fst this,congrArg (λx=>x.2.1) this,congrArg (λx=>x.2.2) this⟩
theorem Cg(e:l'.map pd=l.map pd)(hf:f∈l):∃f'∈l',f'.ao=f.ao/\f'.gI=f.gI/\f'.cF=f.cF:=by
 obtain⟨k,hk⟩:=GU.1 hf;obtain⟨f',h1,h2⟩:=Iq e hk;exact⟨f',aA h1,h2⟩
theorem Vi.pd{q q':QS}(V:Vi q)(ea:q'.a=q.a)(e:q'.l.map Sh.pd=q.l.map Sh.pd):Vi q'/\∀j,q'.vw j=q.vw j:=by
 have V':Vi q':=by
  refine⟨λi j f h hf hh ep h0=>?_,λf hf h0 hd=>?_,λf hf h0=>?_,λf hf h0=>?_,λf hf h0=>?_⟩
  .obtain⟨f',a1,a2,_⟩:=Iq e.symm hf;obtain⟨h',b1,b2,_⟩:=Iq e.symm hh;exact V.un i j f' h' a1 b1 (by omega) (by omega)
  .obtain⟨f',a1,a2,a3,a4⟩:=Cg e.symm hf;rw[ea,<-a2,<-a3];exact V.cl f' a1 (by omega) (by rw[a4];exact hd)
  .obtain⟨f',a1,a2,_⟩:=Cg e.symm hf;rw[ea,<-a2];exact V.ex f' a1 (by omega)
  .obtain⟨f',a1,a2,_,a4⟩:=Cg e.symm hf;rw[<-a4];exact V.em f' a1 (by omega)
  .obtain⟨f',a1,a2,a3,_⟩:=Cg e.symm hf;rw[<-a3];exact V.fl f' a1 (by omega)
 refine⟨V',λj=>?_⟩
 rcases iA q j with h|⟨k,f,hf,rfl,h0⟩
 .rw[eW h,eW (h.imp id (λh f hf=>by
   obtain⟨f',a1,a2,_⟩:=Cg e.symm hf;rw[<-a2];exact h f' a1)),ea]
 .obtain⟨f',a1,a2,a3,_⟩:=Iq e hf;rw[V.jY hf h0,<-a2,V'.jY a1 (by omega),a3]
theorem mem_set{g:Fr}(h:f∈l.set k g):f=g\/∃i,i≠k/\l[i]?=some f:=by
 obtain⟨i,hi⟩:=GU.1 h
 by_cases xd:i=k
 .subst xd;rw[jj]at hi
  split at hi
  .split at hi
   .injection hi with hi;exact .inl hi.symm
   .cases hi
  .rename_i h;exact absurd rfl h
 .rw[iu (by omega)]at hi;exact .inr ⟨i,xd,hi⟩
theorem wk{b:rd}(h:b.size=232):ft b.data.toList 232=b.data.toList:=by
 have hl:b.data.toList.length=b.size:=by simp
 unfold ft;rw[hl,h];simp
theorem Vi.wrote{q:QS}(V:Vi q)(hf:q.l[k]?=some f)(h0:0<=f.ao)(hw:(q.a.aG f.ao f.gI.data.toList).2=0):
  Vi {q with a:=(q.a.aG f.ao f.gI.data.toList).1,l:=q.l.set k {f with cF:=false}}/\∀j,QS.vw {q with a:=(q.a.aG f.ao f.gI.data.toList).1,l:=q.l.set k {f with cF:=false}} j=q.vw j:=by
 have hr:=nP hw;have hk:=(aR.1 hf).1;have ne:∀(i:Nat) (h:Fr),i≠k->q.l[i]?=some h->h.ao≠f.ao:=λi h hi hh e=>hi (V.un i k h f hh hf e (by omega));have V':Vi {q with a:=(q.a.aG f.ao f.gI.data.toList).1,l:=q.l.set k {f with cF:=false}}:=by
  refine⟨λi j g h hg hh ep VH=>?_,λg hg VH hd=>?_,λg hg VH=>?_,λg hg VH=>?_,λg hg VH=>?_⟩
  .have gt:∀(i:Nat) (g:Fr),(q.l.set k {f with cF:=false})[i]?=some g->∃g',q.l[i]?=some g'/\g'.ao=g.ao:=λi g hg=>by
    by_cases xd:i=k
    .subst xd;rw[eu hk]at hg;injection hg with hg
     exact⟨f,hf,by rw[<-hg]⟩
    .rw[iu (by omega)]at hg;exact⟨g,hg,rfl⟩
   obtain⟨g',a1,a2⟩:=gt i g hg;obtain⟨h',b1,b2⟩:=gt j h hh;exact V.un i j g' h' a1 b1 (by omega) (by omega)
  .show(q.a.aG f.ao f.gI.data.toList).1.aP g.ao=_
   rcases mem_set hg with rfl|⟨i,hi,XO⟩
   .rw[hr,if_pos rfl,(wk (V.fl f (aA hf) h0))]
   .rw[hr,if_neg (ne i g hi XO)];exact V.cl g (aA XO) VH hd
  .show((q.a.aG f.ao f.gI.data.toList).1.aP g.ao).2=0
   rcases mem_set hg with rfl|⟨i,hi,XO⟩
   .rw[hr,if_pos rfl]
   .rw[hr,if_neg (ne i g hi XO)];exact V.ex g (aA XO) VH
  .rcases mem_set hg with rfl|⟨i,hi,XO⟩
   .rfl
   .exact V.em g (aA XO) VH
  .rcases mem_set hg with rfl|⟨i,hi,XO⟩
   .exact V.fl f (aA hf) h0
   .exact V.fl g (aA XO) VH
 refine⟨V',λj=>?_⟩
 rcases iA q j with h|⟨i,g,hg,rfl,VH⟩
 .rw[eW h,eW (h.imp id (λh g hg=>by
   rcases mem_set hg with rfl|⟨i,hi,XO⟩
   .exact h f (aA hf)
   .exact h g (aA XO)))]
  show(q.a.aG f.ao f.gI.data.toList).1.aP j=_;rw[hr,if_neg];intro e
  rcases h with h|h
  .omega
  .exact h f (aA hf) e.symm
 .rw[V.jY hg VH]
  by_cases xd:i=k
  .subst xd;have:g=f:=by rw[hg]at hf;injection hf
   subst this;exact V'.jY (k:=i) (f:={g with cF:=false}) (by show(q.l.set i _)[i]?=_;rw[eu hk]) VH
  .exact V'.jY (k:=i) (f:=g) (by show(q.l.set k _)[i]?=_;rw[iu (by omega)];exact hg) VH
theorem Vi.swap{q:QS}(V:Vi q)(hf:q.l[k]?=some f)(hd:f.cF=false)(g:Fr)(hg:g=Fr.nil\/(0<=g.ao/\g.cF=false/\(∀h∈q.l,h.ao≠g.ao)/\q.a.aP g.ao=(g.gI.data.toList,0)/\g.gI.size=232)):
  Vi {q with l:=q.l.set k g}/\∀j,QS.vw {q with l:=q.l.set k g} j=q.vw j:=by
 have hk:=(aR.1 hf).1
 have gp:0<=g.ao->g.cF=false/\(∀h∈q.l,h.ao≠g.ao)/\q.a.aP g.ao=(g.gI.data.toList,0)/\g.gI.size=232:=λh=>by
  rcases hg with rfl|hg
  .exact absurd h (by decide)
  .exact hg.2
 have V':Vi {q with l:=q.l.set k g}:=by
  refine⟨λi j f1 h1 uP hh1 ep h0=>?_,λf1 uP h0 wZ=>?_,λf1 uP h0=>?_,λf1 uP h0=>?_,λf1 uP h0=>?_⟩
  .have gt:∀(i:Nat) (x:Fr),(q.l.set k g)[i]?=some x->(i=k/\x=g)\/(i≠k/\q.l[i]?=some x):=λi x hx=>by
    by_cases xd:i=k
    .subst xd;rw[eu hk]at hx;injection hx with hx
     exact .inl ⟨rfl,hx.symm⟩
    .rw[iu (by omega)]at hx;exact .inr ⟨xd,hx⟩
   rcases gt i f1 uP with⟨rfl,rfl⟩|⟨hi,qk⟩
   .rcases gt j h1 hh1 with⟨rfl,rfl⟩|⟨hj,hj'⟩
    .rfl
    .exact absurd ep.symm ((gp h0).2.1 h1 (aA hj'))
   .rcases gt j h1 hh1 with⟨rfl,rfl⟩|⟨hj,hj'⟩
    .exact absurd ep ((gp (by omega)).2.1 f1 (aA qk))
    .exact V.un i j f1 h1 qk hj' ep h0
  .rcases mem_set uP with rfl|⟨i,hi,qk⟩
   .exact(gp h0).2.2.1
   .exact V.cl f1 (aA qk) h0 wZ
  .show(q.a.aP f1.ao).2=0
   rcases mem_set uP with rfl|⟨i,hi,qk⟩
   .rw[(gp h0).2.2.1]
   .exact V.ex f1 (aA qk) h0
  .rcases mem_set uP with rfl|⟨i,hi,qk⟩
   .rw[(λh=>hg.resolve_right (λh'=>by omega)) h0];rfl
   .exact V.em f1 (aA qk) h0
  .rcases mem_set uP with rfl|⟨i,hi,qk⟩
   .exact(gp h0).2.2.2
   .exact V.fl f1 (aA qk) h0
 refine⟨V',λj=>?_⟩
 by_cases hjg:0<=g.ao/\g.ao=j
 .obtain⟨h0,rfl⟩:=hjg;rw[V'.jY (k:=k) (f:=g) (by show(q.l.set k g)[k]?=_;rw[eu hk]) h0,eW (.inr (gp h0).2.1)];exact(gp h0).2.2.1.symm
 rcases iA q j with h|⟨i,f1,uP,rfl,h0⟩
 .rw[eW h,eW (q:={q with l:=q.l.set k g})]
  by_cases hj:j<0
  .exact .inl hj
  .refine .inr (λf1 uP=>?_)
   rcases mem_set uP with rfl|⟨i,hi,qk⟩
   .intro e;exact hjg ⟨by omega,e⟩
   .exact h.resolve_left hj f1 (aA qk)
 .rw[V.jY uP h0]
  by_cases xd:i=k
  .subst xd;have:f1=f:=by rw[uP]at hf;injection hf
   subst this;rw[eW (q:={q with l:=q.l.set i g}) (.inr (λx hx=>by
    rcases mem_set hx with rfl|⟨i',hi,qk⟩
    .intro e;exact hjg ⟨by omega,e⟩
    .intro e;exact hi (V.un i' i x f1 qk uP e (by omega))))]
   exact V.cl f1 (aA uP) h0 hd
  .exact V'.jY (k:=i) (f:=f1) (by show(q.l.set k g)[i]?=_;rw[iu (by omega)];exact uP) h0
variable{l l':List Fr}{p j:Int}{n K k:Nat}{a:St}{f:Fr}
theorem OV(m:Nat)(s:QS):s.kt (m+1)=if 0<(kA s.l s.hand).held then s.turn.kt m else if(kA s.l s.hand).used=true then QS.kt m {s.turn with l:=s.l.set s.hand {kA s.l s.hand with used:=false}}else(s.turn,(s.hand:Int)):=rfl
theorem Ch(h:findF l p= -1)(h0:0<=p):∀f∈l,f.ao≠p:=by
 intro f hf e;unfold findF at h;rw[gc]at h;unfold Jm at h
 split at h
 .omega
 .rename_i hn;exact hn (Ni.2 ⟨f,hf,by simpa using e⟩)
theorem XP{q:QS}(H:Hq q n K)(p:Int)(b:rd)(hb:b.size<=232)(h0:(q.bh p).2.2=0):((q.bh p).1.gm p b).2=0:=by
 have key:∀(q':QS) (k:Nat) (f:Fr),findF q'.l p=k->q'.l[k]?=some f->f.held≠0->(q'.gm p b).2=0:=λq' k f e hf hn=>by
  unfold QS.gm QS.iS;rw[gc,e,gc,show((k:Nat):Int).toNat=k by omega,hf];dsimp only;rw[if_neg hn]
 have hit:∀(l:List Fr) (k:Nat) (f:Fr),l[k]?=some f->f.ao=p->0<=p->(∀(j:Nat) (a:Fr),j<k->l[j]?=some a->a.ao≠p)->findF l p=k:=λl k f hf e h0 ha=>by
  unfold findF;rw[gc];exact vS hf (by simpa using e) (λj a hj hja=>by simpa using ha j a hj hja)
 unfold QS.bh at h0 ⊢
 rcases ix q.l p with e|⟨k,f,e,hk,he,hp⟩
 .rw[e,gc]at h0 ⊢
  by_cases hr:(q.a.aP p).2≠0
  .rw[if_pos hr]at h0;exact absurd h0 hr
  rw[if_neg hr]at h0 ⊢;have hp:0<=p:=by
   by_cases hp:0<=p
   .exact hp
   .exfalso;apply hr;unfold St.aP St.at;rw[if_neg hp];decide
  obtain⟨v1,v3⟩:=H.XK;have va:=jX q
  by_cases hv:q.aN.2<0
  .rw[if_pos hv]at h0;exact absurd h0 (by show(12:Int)≠0;decide)
  rw[if_neg hv]at h0 ⊢
  rcases v3 with v3|⟨k,v3,lO⟩
  .omega
  rw[v3,show((k:Nat):Int).toNat=k by omega]at h0 ⊢
  by_cases cf:(q.aN.1.cA k).2≠0
  .rw[if_pos cf]at h0;exact absurd h0 cf
  rw[if_neg cf];have je:(q.aN.1.cA k).1.l.map Fr.ao=q.l.map Fr.ao:=by
   have sp:∀(m:Nat) (s:QS),s.hand<s.l.length->(s.kt m).1.l.map Fr.ao=s.l.map Fr.ao:=by
    intro m
    induction m with
    |zero=>intro s _;rfl
    |succ m ih=>
     intro s hs;rw[OV];have ht:s.turn.hand<s.turn.l.length:=sN _ (by show 0<s.l.length;omega)
     split
     .exact ih s.turn ht
     .split
      .rw[(ih {s.turn with l:=s.l.set s.hand {kA s.l s.hand with used:=false}} (by show s.turn.hand<(s.l.set _ _).length;rw[bV];exact ht))];show(s.l.set s.hand _).map Fr.ao=_;rw[sI];apply nM;intro i;rw[jj]
       split
       .rename_i hi;subst hi;rw[if_pos (by simpa using hs),ir,ng hs];rfl
       .rfl
      .rfl
   have bp:(q.aN.1.cA k).1.l.map Fr.ao=q.aN.1.l.map Fr.ao:=by
    have hkv:k<q.aN.1.l.length:=by omega
    unfold QS.cA
    split
    .split
     .show(q.aN.1.l.set k _).map Fr.ao=_;rw[sI];apply nM;intro i;rw[jj]
      split
      .rename_i hi;subst hi;rw[if_pos (by simpa using hkv),ir,ng hkv];rfl
      .rfl
     .rfl
    .rfl
   rw[bp];unfold QS.aN
   split
   .rfl
   .exact sp _ q H.lh
  have zO:=(Ce (k:=k) v1.f (by omega)).2;refine key _ k ⟨p,⟨(q.a.aP p).1.toArray⟩,1,false,true⟩ (hit _ k ⟨p,⟨(q.a.aP p).1.toArray⟩,1,false,true⟩ (by rw[eu (by omega)]) rfl hp (λj a hj hja=>?_)) (by rw[eu (by omega)]) (by show(1:Int)≠0;decide);rw[iu (by omega)]at hja
  obtain⟨f',hf',e'⟩:=cr.1 (by rw[<-je];exact j8 (aA hja));rw[<-e'];exact (Ch e hp) f' hf'
 .rw[e,g8,show((k:Nat):Int).toNat=k by omega,oU hk];have lO:k<q.l.length:=(aR.1 hk).1;have hfb:=H.f f (aA hk);refine key _ k {f with held:=f.held+1,used:=true} (hit _ k {f with held:=f.held+1,used:=true} (by rw[eu lO]) he hp (λj a hj hja=>?_)) (by rw[eu lO]) (by show f.held+1≠0;omega);rw[iu (by omega)]at hja;intro ea;have:findF q.l p=j\/findF q.l p<k:=by
   right;unfold findF;rw[gc];unfold Jm;obtain⟨hjl,hje⟩:=(aR.1 hja);have hle:q.l.findIdx (λf=>decide (f.ao=p))<=j:=by
    by_cases h:q.l.findIdx (λf=>decide (f.ao=p))<=j
    .exact h
    .have:=GW (p:=λf=>decide (f.ao=p)) (xs:=q.l) (i:=j) (by omega);rw[hje]at this;simp[ea]at this
   rw[g8];omega
  omega
def OY(f:Fr):Int×rd×Bool×Int:=(f.ao,f.gI,f.cF,f.held)
theorem pdh_pd(e:l'.map OY=l.map OY):l'.map Sh.pd=l.map Sh.pd:=by
 have h:∀l:List Fr,l.map Sh.pd=(l.map OY).map (λx=>(x.1,x.2.1,x.2.2.1)):=λl=>by rw[gR];rfl
 rw[h,h,e]
theorem Kf(e:l'.map OY=l.map OY)(h:∀f∈l,f.held=0):∀f∈l',f.held=0:=λf hf=>by
 have:OY f∈l.map OY:=by rw[<-e];exact j8 hf
 obtain⟨f',h1,h2⟩:=cr.1 this;have h3:f'.held=f.held:=congrArg (λx=>x.2.2.2) h2;rw[<-h3];exact h f' h1
theorem Pc(s:QS)(hl:s.hand<s.l.length)(hh:∀f∈s.l,f.held=0):∀m,s.l.countP Fr.used<m->∃k:Nat,(s.kt m).2=k/\k<s.l.length/\(s.kt m).1.l.map OY=s.l.map OY:=by
 intro m
 induction m generalizing s with
 |zero=>intro h;omega
 |succ m ih=>
  intro hm;have hf:=ng hl;have h0:=hh _ (aA hf);rw[OV,gc]
  by_cases hu:(kA s.l s.hand).used=true
  .rw[if_pos hu];have hlen:(s.l.set s.hand {kA s.l s.hand with used:=false}).length=s.l.length:=bV ..;have hc:(s.l.set s.hand {kA s.l s.hand with used:=false}).countP Fr.used<s.l.countP Fr.used:=by
    rw[List.countP_set hl];have e:s.l[s.hand]=kA s.l s.hand:=by unfold kA;rw[aH hl];rfl
    have hp:0<s.l.countP Fr.used:=List.countP_pos_iff.2 ⟨_,jS hl,by rw[e];exact hu⟩;rw[e];simp[hu];omega
   obtain⟨k,h1,h2,h3⟩:=ih {s.turn with l:=s.l.set s.hand {kA s.l s.hand with used:=false}} (by rw[hlen];exact (sN _ (by omega)))
    (λf Ak=>(vz Ak).elim (hh f) (λe=>by rw[e];exact h0)) (by show List.countP _ (s.l.set _ _)<m;omega)
   rw[hlen]at h2;exact⟨k,h1,h2,h3.trans (kY s.l OY s.hand hf rfl)⟩
  .rw[if_neg hu];exact⟨s.hand,rfl,hl,rfl⟩
theorem Ir(s:QS)(hl:s.hand<s.l.length)(hh:∀f∈s.l,f.held=0):∃k:Nat,s.aN.2=k/\k<s.l.length/\s.aN.1.l.map OY=s.l.map OY:=by
 unfold QS.aN
 rcases Hx (λf=>decide (f.ao<0)) s.l with e|⟨k,f,e,hf,_⟩
 .rw[e,gc];exact Pc s hl hh _ (by have:=xj (p:=Fr.used) (l:=s.l);omega)
 .rw[e,g8];exact⟨k,rfl,(aR.1 hf).1,rfl⟩
theorem Zc.len{c:C}(z:Zc c n a K){l:Int}(h:(a.aP l).2=0):(a.aP l).1.length=232:=by
 have hr:=z.read l;rw[xM z.g]at hr;rw[<-hr]at h ⊢;exact JQ z.g h
theorem ba_eta(b:rd):(⟨b.data.toList.toArray⟩:rd)=b:=by simp
theorem Kg{q:QS}(V:Vi q)(hf:q.l[k]?=some f)(he:f.ao=p)(h0:0<=p)(h1:f.held=1)(hN:∀(i:Nat) (h:Fr),i≠k->q.l[i]?=some h->h.held=0):
  (q.iT p).1.a=q.a/\Vi (q.iT p).1/\(∀j,(q.iT p).1.vw j=q.vw j)/\∀f∈(q.iT p).1.l,f.held=0:=by
 have e:findF q.l p=k:=by rw[<-he];exact Ip hf (by omega) (λj h hj ej=>V.un j k h f hj hf ej (by omega))
 have hE:(q.iT p).1={q with l:=q.l.set k {f with held:=f.held-1}}:=by
  unfold QS.iT QS.iS;rw[e,gc,show((k:Nat):Int).toNat=k by omega,hf];dsimp only;rw[gc]
 rw[hE];obtain⟨V1,w1⟩:=V.pd (q':={q with l:=q.l.set k {f with held:=f.held-1}}) rfl (kY q.l Sh.pd k hf rfl);refine⟨rfl,V1,w1,λg hg=>?_⟩
 rcases mem_set hg with rfl|⟨i,hi,qk⟩
 .show f.held-1=0;omega
 .exact hN i g hi qk
theorem Ci{q:QS}(N:∀f∈q.l,f.held=0):q.wg=0:=by
 unfold QS.wg;rw[M8];intro f hf;rw[N f hf];decide
theorem Vi.setp{q:QS}(V:Vi q)(hf:q.l[k]?=some f)(h0:0<=f.ao)(g:Fr)(ep:g.ao=f.ao)(hd:g.cF=true)(hs:g.gI.size=232):
  Vi {q with l:=q.l.set k g}/\∀j,QS.vw {q with l:=q.l.set k g} j=if j=f.ao then(g.gI.data.toList,0)else q.vw j:=by
 have hk:=(aR.1 hf).1;have gt:∀(i:Nat) (x:Fr),(q.l.set k g)[i]?=some x->∃x',q.l[i]?=some x'/\x'.ao=x.ao:=λi x hx=>by
  by_cases xd:i=k
  .subst xd;rw[eu hk]at hx;injection hx with hx
   exact⟨f,hf,by rw[<-hx,ep]⟩
  .rw[iu (by omega)]at hx;exact⟨x,hx,rfl⟩
 have V':Vi {q with l:=q.l.set k g}:=by
  refine⟨λi j f1 h1 uP hh1 e1 VI=>?_,λf1 uP VI wZ=>?_,λf1 uP VI=>?_,λf1 uP VI=>?_,λf1 uP VI=>?_⟩
  .obtain⟨f',a1,a2⟩:=gt i f1 uP;obtain⟨h',b1,b2⟩:=gt j h1 hh1;exact V.un i j f' h' a1 b1 (by omega) (by omega)
  .rcases mem_set uP with rfl|⟨i,hi,qk⟩
   .rw[hd]at wZ;cases wZ
   .exact V.cl f1 (aA qk) VI wZ
  .show(q.a.aP f1.ao).2=0
   rcases mem_set uP with rfl|⟨i,hi,qk⟩
   .rw[ep];exact V.ex f (aA hf) h0
   .exact V.ex f1 (aA qk) VI
  .rcases mem_set uP with rfl|⟨i,hi,qk⟩
   .omega
   .exact V.em f1 (aA qk) VI
  .rcases mem_set uP with rfl|⟨i,hi,qk⟩
   .exact hs
   .exact V.fl f1 (aA qk) VI
 refine⟨V',λj=>?_⟩
 by_cases hj:j=f.ao
 .subst hj;rw[if_pos rfl,<-ep];exact V'.jY (k:=k) (f:=g) (by show(q.l.set k g)[k]?=_;rw[eu hk]) (by omega)
 .rw[if_neg hj]
  rcases iA q j with h|⟨i,f1,uP,rfl,VI⟩
  .rw[eW h,eW (q:={q with l:=q.l.set k g}) (h.imp id (λh x hx=>by
    rcases mem_set hx with rfl|⟨i,hi,qk⟩
    .rw[ep];exact h f (aA hf)
    .exact h x (aA qk)))]
  .rw[V.jY uP VI];refine V'.jY (k:=i) (f:=f1) ?_ VI;have xd:i≠k:=λe=>by
    subst e;have:f1=f:=by rw[uP]at hf;injection hf
    exact hj (by rw[this])
   show(q.l.set k g)[i]?=_;rw[iu (by omega)];exact uP
theorem Cj(l:List ua):∀(k i:Nat),kG l k<=i->i<k->(l[i]?).getD none=none
 |0,i,_,h=>absurd h (mc i)
 |k+1,i,h1,h2=>by
  unfold kG at h1
  by_cases h:((l[k]?).getD none).isSome=true
  .rw[if_pos h]at h1;omega
  .rw[if_neg h]at h1
   by_cases hk:i=k
   .subst hk;simpa using h
   .exact Cj l k i h1 (by omega)
theorem next_at(a:St)(j:Int):({a with now:=jr a.eJ,bj:=a.eJ,ep:=a.ep+1}:St).at j=unfr (a.at j):=by
 unfold St.at
 by_cases h0:0<=j
 .rw[if_pos h0,if_pos h0];show((jr a.eJ)[j.toNat]?).getD none=_;rw[Xq,ir,uA]
  by_cases h:j.toNat<kG a.now a.now.length
  .rw[if_pos h]
   cases hx:a.now[j.toNat]? with
   |none=>rfl
   |some u=>rfl
  .rw[if_neg h]
   by_cases hl:j.toNat<a.now.length
   .rw[Cj a.now a.now.length j.toNat (by omega) hl];rfl
   .rw[gH (by omega)];rfl
 .rw[if_neg h0,if_neg h0];rfl
theorem oL(a:St)(j:Int):a.aQ.1.aP j=a.aP j/\((a.aQ.1.at j).isSome=(a.at j).isSome):=by
 unfold St.aQ
 split
 .exact⟨rfl,rfl⟩
 .unfold St.aP;show(match St.at {a with now:=jr a.eJ,bj:=a.eJ,ep:=a.ep+1} j with|some (_,b)=>(b,(0:Int))|none=>([],3))=_/\(St.at {a with now:=jr a.eJ,bj:=a.eJ,ep:=a.ep+1} j).isSome=_;rw[next_at]
  cases a.at j with
  |none=>exact⟨rfl,rfl⟩
  |some u=>exact⟨rfl,rfl⟩
theorem Vi.kx{q:QS}(V:Vi q):Vi {q with a:=q.a.aQ.1}/\∀j,QS.vw {q with a:=q.a.aQ.1} j=q.vw j:=by
 refine⟨⟨V.un,λf hf h0 hd=>?_,λf hf h0=>?_,V.em,V.fl⟩,λj=>?_⟩
 .show q.a.aQ.1.aP f.ao=_;rw[(oL q.a _).1];exact V.cl f hf h0 hd
 .show(q.a.aQ.1.aP f.ao).2=0;rw[(oL q.a _).1];exact V.ex f hf h0
 .unfold QS.vw;show(if 0<=findF q.l j then _ else q.a.aQ.1.aP j)=_;rw[(oL q.a j).1]
theorem XQ{q:QS}(V:Vi q)(hk:k<q.l.length):
  ((q.cA k).2=0/\(q.cA k).1.a.bj=q.a.bj/\Vi (q.cA k).1/\(∀j,(q.cA k).1.vw j=q.vw j)/\∃f,(q.cA k).1.l[k]?=some f/\f.cF=false/\(q.cA k).1.l.map Fr.held=q.l.map Fr.held/\(q.cA k).1.l.map Fr.ao=q.l.map Fr.ao)\/q.cA k=(q,11):=by
 have hf:=ng hk;unfold QS.cA
 by_cases hd:(kA q.l k).cF=true
 .have h0:0<=(kA q.l k).ao:=by
   by_cases h:0<=(kA q.l k).ao
   .exact h
   .have:=V.em _ (aA hf) (by omega);rw[hd]at this;cases this
  rw[if_pos hd];have hx:=V.ex _ (aA hf) h0;have hw:(q.a.aG (kA q.l k).ao (kA q.l k).gI.data.toList).2=0/\(q.a.aG (kA q.l k).ao (kA q.l k).gI.data.toList).1.bj=q.a.bj\/q.a.aG (kA q.l k).ao (kA q.l k).gI.data.toList=(q.a,11):=by
   unfold St.aG;rw[if_neg (by simp[(V.fl _ (aA hf) h0)]),if_neg (by rw[wj]at hx;simp[hx])]
   split
   .exact .inr rfl
   .exact .inl ⟨rfl,rfl⟩
  rcases hw with⟨hw,ho⟩|hw
  .rw[if_pos hw];obtain⟨V',hv⟩:=V.wrote hf h0 hw;exact .inl ⟨rfl,ho,V',hv,{kA q.l k with cF:=false},by show(q.l.set k _)[k]?=_;rw[eu hk],rfl,kY q.l Fr.held k hf rfl,kY q.l Fr.ao k hf rfl⟩
  .rw[hw,i8];exact .inr rfl
 .rw[if_neg hd];exact .inl ⟨rfl,rfl,V,λj=>rfl,_,hf,by simpa using hd,rfl,rfl⟩
theorem back_d{q:QS}(hk:k<q.l.length)(h0:(q.cA k).2=0){i:Nat}(hf:(q.cA k).1.l[i]?=some f)(hd:f.cF=true):i≠k/\q.l[i]?=some f:=by
 unfold QS.cA at h0 hf
 by_cases h1:(kA q.l k).cF=true
 .rw[if_pos h1]at h0 hf
  by_cases h2:(q.a.aG (kA q.l k).ao (kA q.l k).gI.data.toList).2=0
  .rw[if_pos h2]at hf;have hf:(q.l.set k {kA q.l k with cF:=false})[i]?=some f:=hf
   by_cases e:i=k
   .subst e;rw[eu hk]at hf;injection hf with hf
    subst hf
    cases hd
   .rw[iu (by omega)]at hf;exact⟨e,hf⟩
  .rw[if_neg h2]at h0;exact absurd h0 h2
 .rw[if_neg h1]at hf;have hf:q.l[i]?=some f:=hf;refine⟨λe=>?_,hf⟩;subst e;rw[(ng hk)]at hf;injection hf with hf
  rw[hf]at h1;exact h1 hd
theorem XR{q:QS}(H:Hq q n K)(V:Vi q)(N:∀f∈q.l,f.held=0)(p:Int):
  (q.bh p).1.a.bj=q.a.bj/\Vi (q.bh p).1/\(∀j,(q.bh p).1.vw j=q.vw j)/\
  (((q.vw p).2=0/\(q.bh p).2=(⟨(q.vw p).1.toArray⟩,0)/\∃(k:Nat) (f:Fr),(q.bh p).1.l[k]?=some f/\f.ao=p/\0<=p/\f.held=1/\∀(i:Nat) (h:Fr),i≠k->(q.bh p).1.l[i]?=some h->h.held=0)\/
   ((q.vw p).2=3/\(q.bh p).2=(⟨#[]⟩,3)/\∀f∈(q.bh p).1.l,f.held=0)\/((q.vw p).2=0/\(q.bh p).2=(⟨#[]⟩,11)/\∀f∈(q.bh p).1.l,f.held=0)):=by
 obtain⟨c,z⟩:=H.z
 rcases ix q.l p with e|⟨k,f,e,hk,he,Eu⟩
 .have tY:p<0\/∀f∈q.l,f.ao≠p:=by
   by_cases h0:p<0
   .exact .inl h0
   .exact .inr (Ch e (by omega))
  have hvw:=eW (q:=q) tY
  by_cases hr:(q.a.aP p).2≠0
  .have hE:q.bh p=(q,⟨#[]⟩,(q.a.aP p).2):=by
    unfold QS.bh;rw[e,gc,if_pos hr]
   have h3:(q.a.aP p).2=3:=by
    unfold St.aP at hr ⊢
    split
    .rename_i h;rw[h]at hr;exact absurd rfl hr
    .rfl
   rw[hE];exact⟨rfl,V,λj=>rfl,.inr (.inl ⟨by rw[hvw];exact h3,by rw[h3],N⟩)⟩
  have Pd:(q.a.aP p).2=0:=by simpa using hr
  obtain⟨k,v1,v2,v3⟩:=Ir q H.lh N;have va:=jX q;obtain⟨V1,w1⟩:=V.pd (q':=q.aN.1) va.1 (pdh_pd v3);have hkv:k<q.aN.1.l.length:=by omega
  rcases XQ V1 hkv with⟨b1,b2,b3,b4,f,b5,b6,b7,b8⟩|hb
  .have hE:q.bh p=({(q.aN.1.cA k).1 with l:=(q.aN.1.cA k).1.l.set k ⟨p,⟨(q.a.aP p).1.toArray⟩,1,false,true⟩},⟨(q.a.aP p).1.toArray⟩,0):=by
    unfold QS.bh;rw[e,gc,if_neg hr,v1,gc,show((k:Nat):Int).toNat=k by omega,if_neg (by rw[b1];simp)]
   have Eu:0<=p:=Ke Pd;have hpg:∀h∈(q.aN.1.cA k).1.l,h.ao≠p:=λh hh=>by
    have:h.ao∈q.l.map Fr.ao:=by
     have e1:q.aN.1.l.map Fr.ao=q.l.map Fr.ao:=by
      have hx:∀l:List Fr,l.map Fr.ao=(l.map OY).map (λx=>x.1):=λl=>by rw[gR];rfl
      rw[hx,hx,v3]
     rw[<-e1,<-b8];exact j8 hh
    obtain⟨f',h1,h2⟩:=cr.1 this;rw[<-h2];exact tY.resolve_left (by omega) f' h1
   have hrd:(q.aN.1.cA k).1.a.aP p=q.a.aP p:=by
    have h1:=(b4 p).trans (w1 p);rw[eW (q:=(q.aN.1.cA k).1) (.inr hpg),hvw]at h1;exact h1
   have hsw:=b3.swap b5 b6 ⟨p,⟨(q.a.aP p).1.toArray⟩,1,false,true⟩ (.inr ⟨Eu,rfl,hpg,by
    show(q.aN.1.cA k).1.a.aP p=((q.a.aP p).1,0);rw[hrd];exact jC rfl Pd,by show(q.a.aP p).1.toArray.size=232;simpa using z.len Pd⟩)
   rw[hE];refine⟨by show(q.aN.1.cA k).1.a.bj=_;rw[b2,va.1],hsw.1,λj=>((hsw.2 j).trans (b4 j)).trans (w1 j),.inl ⟨by rw[hvw];exact Pd,by rw[hvw],k,⟨p,⟨(q.a.aP p).1.toArray⟩,1,false,true⟩,?_,rfl,Eu,rfl,λi h hi hh=>?_⟩⟩
   .show(List.set _ _ _)[k]?=_;rw[eu (aR.1 b5).1]
   .have hh:(List.set (q.aN.1.cA k).1.l k _)[i]?=some h:=hh;rw[iu (by omega)]at hh;have h3:h.held∈q.aN.1.l.map Fr.held:=by rw[<-b7];exact j8 (aA hh)
    obtain⟨f',h4,h5⟩:=cr.1 h3;rw[<-h5];exact Kf v3 N f' h4
  .have hE:q.bh p=(q.aN.1,⟨#[]⟩,11):=by
    unfold QS.bh;rw[e,gc,if_neg hr,v1,gc,show((k:Nat):Int).toNat=k by omega,hb,i9]
   rw[hE];exact⟨by show q.aN.1.a.bj=_;rw[va.1],V1,w1,.inr (.inr ⟨by rw[hvw];exact Pd,rfl,Kf v3 N⟩)⟩
 .have hE:q.bh p=({q with l:=q.l.set k {f with held:=f.held+1,used:=true}},f.gI,0):=by
   unfold QS.bh;rw[e,g8,show((k:Nat):Int).toNat=k by omega,oU hk]
  have hvw:q.vw p=(f.gI.data.toList,0):=by rw[<-he];exact V.jY hk (by omega)
  obtain⟨V1,w1⟩:=V.pd (q':={q with l:=q.l.set k {f with held:=f.held+1,used:=true}}) rfl (kY q.l Sh.pd k hk rfl);rw[hE];refine⟨rfl,V1,w1,.inl ⟨by rw[hvw],by rw[hvw,ba_eta],k,{f with held:=f.held+1,used:=true},?_,he,Eu,?_,λi h hi hh=>?_⟩⟩
  .show(q.l.set k _)[k]?=_;rw[eu ((aR.1 hk).1)]
  .have:=N f (aA hk);show f.held+1=1;omega
  .have hh:(q.l.set k _)[i]?=some h:=hh;rw[iu (by omega)]at hh;exact N h (aA hh)
structure Wp(q:QS)(n K:Nat):Prop where
 H:Hq q n K
 V:Vi q
 N:∀f∈q.l,f.held=0
structure Nx(q q':QS)(n K:Nat):Prop where
 w:Wp q' n K
 o:q'.a.bj=q.a.bj
structure Nv(q q':QS)(n K:Nat):Prop extends Nx q q' n K where
 v:∀j,q'.vw j=q.vw j
section
variable{q:QS}{n K:Nat}
theorem Wp.more(h:Wp q n K){K':Nat}(hk:K<=K'):Wp q n K':=⟨h.H.more hk,h.V,h.N⟩
theorem Nv.self(h:Wp q n K):Nv q q n K:=⟨⟨h,rfl⟩,λ_=>rfl⟩
theorem Is(q:QS)(j:Int):(q.vw j).2=0\/q.vw j=([],3):=by
 unfold QS.vw
 split
 .exact .inl rfl
 .unfold St.aP
  split
  .exact .inl rfl
  .exact .inr rfl
theorem Wp.len(h:Wp q n K)(h0:(q.vw j).2=0):(q.vw j).1.length=232:=by
 obtain⟨c,z⟩:=h.H.z
 rcases iA q j with ho|⟨k,f,hk,rfl,hp⟩
 .rw[eW ho]at h0 ⊢;exact z.len h0
 .rw[h.V.jY hk hp];have:=h.V.fl f (aA hk) hp;simpa using this
theorem vw_pos(h0:(q.vw j).2=0):0<=j:=by
 unfold QS.vw at h0
 split at h0
 .rcases ix q.l j with e|⟨_,_,_,_,_,h⟩
  .omega
  .exact h
 .exact Ke h0
theorem Wp.get(h:Wp q n K)(p:Int):Nv q (q.dN p).1 n (K+1)/\
  (((q.vw p).2=0/\(q.dN p).2=(⟨(q.vw p).1.toArray⟩,0))\/(q.vw p=([],3)/\(q.dN p).2=(⟨#[]⟩,3))\/((q.vw p).2=0/\(q.dN p).2=(⟨#[]⟩,11))):=by
 obtain⟨h1,h2,h3,h4⟩:=XR h.H h.V h.N p;have HH:=h.H.get p;unfold QS.dN at HH ⊢
 rcases h4 with⟨e0,e1,k,f,hf,he,Eu,hh,hN⟩|⟨e0,e1,e2⟩|⟨e0,e1,e2⟩
 .rw[e1,i8]at HH;rw[e1,i8];obtain⟨l1,l2,l3,l4⟩:=Kg h2 hf he Eu hh hN;exact⟨⟨⟨⟨HH,l2,l4⟩,by rw[l1];exact h1⟩,λj=>(l3 j).trans (h3 j)⟩,.inl ⟨e0,rfl⟩⟩
 .rw[e1,i9]at HH;rw[e1,i9];exact⟨⟨⟨⟨HH,h2,e2⟩,h1⟩,h3⟩,.inr (.inl ⟨(Is q p).resolve_left (by omega),rfl⟩)⟩
 .rw[e1,i9]at HH;rw[e1,i9];exact⟨⟨⟨⟨HH,h2,e2⟩,h1⟩,h3⟩,.inr (.inr ⟨e0,rfl⟩)⟩
theorem Wp.put(h:Wp q n K)(p:Int)(b:rd)(hb:b.size<=232):Nx q (q.eg p b).1 n (K+1)/\
  (((q.vw p).2=0/\(q.eg p b).2=0/\∀j,(q.eg p b).1.vw j=if j=p then(ft b.data.toList 232,0)else q.vw j)\/(q.vw p=([],3)/\(q.eg p b).2=3/\∀j,(q.eg p b).1.vw j=q.vw j)\/((q.vw p).2=0/\(q.eg p b).2=11/\∀j,(q.eg p b).1.vw j=q.vw j)):=by
 obtain⟨h1,h2,h3,h4⟩:=XR h.H h.V h.N p;have HH:=h.H.put_ p b;unfold QS.eg at HH ⊢;rw[gc]at HH ⊢
 rcases h4 with⟨e0,e1,k,f,hf,he,Eu,hh,hN⟩|⟨e0,e1,e2⟩|⟨e0,e1,e2⟩
 .rw[e1,i8]at HH ⊢;have e:findF (q.bh p).1.l p=k:=by
   have e:=Ip hf (by omega) (λj h hj ej=>h2.un j k h f hj hf ej (by omega));rw[he]at e;exact e
  have hE:((q.bh p).1.gm p b).1={(q.bh p).1 with l:=(q.bh p).1.l.set k {f with gI:=uf b,cF:=true,used:=true}}:=by
   unfold QS.gm QS.iS;rw[gc,e,gc,show((k:Nat):Int).toNat=k by omega,hf];dsimp only;rw[gc]
  have Hv:=h2.setp hf (by omega) {f with gI:=uf b,cF:=true,used:=true} rfl rfl (Cd (by omega));have hlet:=Kg (q:=((q.bh p).1.gm p b).1) (by rw[hE];exact Hv.1) (p:=p) (k:=k) (f:={f with gI:=uf b,cF:=true,used:=true}) (by rw[hE];show(List.set _ _ _)[k]?=_;rw[eu ((aR.1 hf).1)]) he Eu hh (λi h hi hx=>by
   rw[hE]at hx;have hx:(List.set (q.bh p).1.l k _)[i]?=some h:=hx;rw[iu (by omega)]at hx;exact hN i h hi hx)
  obtain⟨l1,l2,l3,l4⟩:=hlet;refine⟨⟨⟨HH,l2,l4⟩,by rw[l1,hE];exact h1⟩,.inl ⟨e0,rfl,λj=>?_⟩⟩;rw[l3 j,hE,Hv.2 j,he]
  by_cases hj:j=p
  .rw[if_pos hj,if_pos hj];rfl
  .rw[if_neg hj,if_neg hj];exact h3 j
 .rw[e1,i9]at HH ⊢;exact⟨⟨⟨HH,h2,e2⟩,h1⟩,.inr (.inl ⟨(Is q p).resolve_left (by omega),rfl,h3⟩)⟩
 .rw[e1,i9]at HH ⊢;exact⟨⟨⟨HH,h2,e2⟩,h1⟩,.inr (.inr ⟨e0,rfl,h3⟩)⟩
theorem Wp.Cf(h:Wp q n K):∀i,i<=q.l.length->Nv q (q.bl i).1 n (K+i)/\((q.bl i).2=0\/(q.bl i).2=11)/\(q.bl i).1.l.length=q.l.length
 |0,_=>⟨.self h,.inl rfl,rfl⟩
 |i+1,hi=>by
  obtain⟨h1,h2,h3⟩:=h.Cf i (by omega);have HH:=(h.H.Cf (i+1) hi).1;rw[wi]at HH ⊢
  rcases h2 with h2|h2
  .rw[if_neg (by rw[h2];simp)]at HH ⊢
   rcases XQ h1.w.V (k:=i) (by omega)with⟨b1,b2,b3,b4,f,b5,b6,b7,b8⟩|hb
   .refine⟨⟨⟨⟨HH,b3,λg hg=>?_⟩,by rw[b2];exact h1.o⟩,λj=>(b4 j).trans (h1.v j)⟩,.inl b1,?_⟩
    .have h6:g.held∈(q.bl i).1.l.map Fr.held:=by rw[<-b7];exact j8 hg
     obtain⟨f',h7,h8⟩:=cr.1 h6;rw[<-h8];exact h1.w.N f' h7
    .have:=congrArg List.length b8;simp only[bM]at this;omega
   .rw[hb]at HH ⊢;exact⟨⟨⟨⟨HH,h1.w.V,h1.w.N⟩,h1.o⟩,h1.v⟩,.inr rfl,h3⟩
  .rw[if_pos (by rw[h2];simp)]at HH ⊢;exact⟨⟨⟨⟨HH,h1.w.V,h1.w.N⟩,h1.o⟩,h1.v⟩,.inr h2,h3⟩
theorem Wp.Rg(h:Wp q n K):∀i,i<=q.l.length->(q.bl i).2=0->∀(j:Nat) (f:Fr),(q.bl i).1.l[j]?=some f->f.cF=true->i<=j
 |0,_,_,_,_,_,_=>aW _
 |i+1,hi,h0,j,f,hf,hd=>by
  rw[wi]at h0 hf
  by_cases h2:(q.bl i).2=0
  .rw[if_neg (by rw[h2];simp)]at h0 hf;obtain⟨a1,a2⟩:=back_d (by rw[(h.Cf i (by omega)).2.2];omega) h0 hf hd;have:=h.Rg i (by omega) h2 j f a2 hd;omega
  .rw[if_pos h2]at h0;exact absurd h0 h2
def QS.ov(q:QS)(j:Int):pu×Int:=({q.a with now:=jr q.a.bj}:St).aP j
theorem Fq{q q':QS}(h:q'.a.bj=q.a.bj)(j:Int):q'.ov j=q.ov j:=by
 unfold QS.ov St.aP St.at;rw[h]
theorem Wp.kx(h:Wp q n K)(hK:K<=999999999000):Wp q.aQ.1 n (K+40)/\(∀j,q.aQ.1.vw j=q.vw j)/\
  ((q.aQ.2=0/\∀j,q.aQ.1.ov j=q.vw j)\/(q.aQ.2=11/\∀j,q.aQ.1.ov j=q.ov j)):=by
 obtain⟨h1,h2,h3⟩:=h.Cf q.l.length (ai _);have HH:=h.H.kx hK;unfold QS.aQ at HH ⊢;rw[if_neg (by rw[Ci h.N];omega)]at HH ⊢
 rcases h2 with h2|h2
 .rw[if_neg (by rw[h2];simp)]at HH ⊢;obtain⟨c1,c2⟩:=h1.w.V.kx;refine⟨⟨HH,c1,h1.w.N⟩,λj=>(c2 j).trans (h1.v j),?_⟩;have Pe:=h.Rg _ (ai _) h2;generalize hb:(q.bl q.l.length).1=r at *
  by_cases hf:r.a.free<cU r.a.eJ.length
  .right;have e:r.a.aQ=(r.a,11):=by unfold St.aQ;rw[if_pos hf]
   rw[e];exact⟨rfl,λj=>Fq h1.o j⟩
  .left;have e:r.a.aQ=({r.a with now:=jr r.a.eJ,bj:=r.a.eJ,ep:=r.a.ep+1},0):=by unfold St.aQ;rw[if_neg hf]
   refine⟨by rw[e],λj=>?_⟩;have e2:QS.ov {r with a:=r.a.aQ.1} j=r.a.aQ.1.aP j:=by
    rw[e];rfl
   show QS.ov {r with a:=r.a.aQ.1} j=_;rw[e2,(oL r.a j).1,<-h1.v j]
   rcases iA r j with ho|⟨k,f,hk,rfl,hp⟩
   .rw[eW ho]
   .rw[h1.w.V.jY hk hp];refine h1.w.V.cl f (aA hk) hp ?_
    by_cases hd:f.cF=true
    .have:=Pe k f hk hd;have:=(aR.1 hk).1;omega
    .simpa using hd
 .rw[if_pos (by rw[h2];simp)]at HH ⊢;exact⟨(⟨HH,h1.w.V,h1.w.N⟩),h1.v,.inr ⟨h2,λj=>Fq h1.o j⟩⟩
theorem Wp.abort(h:Wp q n K):Wp q.cq n K/\(∀j,q.cq.vw j=q.ov j)/\∀j,q.cq.ov j=q.ov j:=by
 have hn:∀f∈q.cq.l,f=Fr.nil:=λf hf=>oP hf;have hp:∀f∈q.cq.l,¬0<=f.ao:=λf hf=>by rw[hn f hf];show ¬(0:Int)<= -1;omega
 refine⟨⟨h.H.abort,⟨λi j f g hi hj e h0=>absurd h0 (hp f (aA hi)),λf hf h0=>absurd h0 (hp f hf),λf hf h0=>absurd h0 (hp f hf),λf hf _=>by rw[hn f hf];rfl,λf hf h0=>absurd h0 (hp f hf)⟩,λf hf=>by rw[hn f hf];rfl⟩,λj=>?_,λj=>rfl⟩
 by_cases hj:j<0
 .rw[eW (.inl hj)];rfl
 .rw[eW (.inr λf hf e=>hp f hf (by omega))];rfl
theorem at_put'(v:Option (Bool×pu))(q:Int):({a with now:=qz a.now a.slot v}:St).at q=if q=(a.slot:Nat)then v else a.at q:=by
 unfold St.at
 by_cases h0:0<=q
 .rw[if_pos h0];show((qz a.now a.slot v)[q.toNat]?).getD none=_;rw[px _ _ _ (slot_le a)]
  by_cases e:q=(a.slot:Nat)
  .rw[if_pos e,g8];rfl
  .rw[if_neg e,gc,if_pos h0]
 .rw[if_neg h0,gc,if_neg h0]
theorem vw_new{p:pu}(h:(a.bZ p).2.2=0):∃l:Nat,(a.bZ p).2.1=l/\l<=511/\a.at (l:Nat)=none/\∀j,(a.bZ p).1.aP j=if j=(l:Nat)then(ft p 232,0)else a.aP j:=by
 unfold St.bZ at h ⊢
 split at h
 .exact absurd h (by show(4:Int)≠0;decide)
 .rename_i h1;rw[if_neg h1]
  split at h
  .exact absurd h (by show(11:Int)≠0;decide)
  .rename_i h2;rw[if_neg h2];refine⟨a.slot,rfl,by omega,Tu a,λj=>?_⟩;unfold St.aP;rw[at_put']
   by_cases e:j=(a.slot:Nat)
   .rw[if_pos e,if_pos e]
   .rw[if_neg e,if_neg e]
theorem Wp.new(h:Wp q n K)(p:rd)(hb:p.size<=232):Nx q (q.bZ p.data.toList).1 n (K+1)/\
  ((∃l:Nat,(q.bZ p.data.toList).2=(((l:Nat):Int),0)/\l<=511/\q.vw (l:Nat)=([],3)/\∀j,(q.bZ p.data.toList).1.vw j=if j=(l:Nat)then(ft p.data.toList 232,0)else q.vw j)\/((q.bZ p.data.toList).2=(0,11)/\∀j,(q.bZ p.data.toList).1.vw j=q.vw j)):=by
 have HH:=h.H.new p.data.toList;unfold QS.bZ at HH ⊢
 by_cases h0:(q.a.bZ p.data.toList).2.2=0
 .obtain⟨l,e1,e2,e3,e4⟩:=vw_new h0;have hr:∀f∈q.l,0<=f.ao->f.ao≠(l:Nat):=λf hf h0 e=>by
   have:=h.V.ex f hf h0;unfold St.aP at this;rw[e,e3]at this;exact absurd this (by show(3:Int)≠0;decide)
  have hl:q.vw (l:Nat)=([],3):=by
   rw[eW (.inr λf hf e=>hr f hf (by omega) e)];unfold St.aP;rw[e3]
  have V':Vi {q with a:=(q.a.bZ p.data.toList).1}:=⟨h.V.un,λf hf h0 hd=>by show(q.a.bZ _).1.aP _=_;rw[e4,if_neg (hr f hf h0)];exact h.V.cl f hf h0 hd,λf hf h0=>by show((q.a.bZ _).1.aP _).2=_;rw[e4,if_neg (hr f hf h0)];exact h.V.ex f hf h0,h.V.em,h.V.fl⟩;refine⟨⟨⟨HH,V',h.N⟩,?_⟩,.inl ⟨l,jC e1 h0,e2,hl,λj=>?_⟩⟩
  .show(q.a.bZ _).1.bj=_;unfold St.bZ
   split
   .rfl
   .split<;>rfl
  .rcases iA q j with ho|⟨k,f,hk,rfl,hp⟩
   .rw[eW (q:={q with a:=(q.a.bZ p.data.toList).1}) ho,eW ho];exact e4 j
   .rw[if_neg (hr f (aA hk) hp),h.V.jY hk hp];exact V'.jY hk hp
 .have e:q.a.bZ p.data.toList=(q.a,0,11):=by
   unfold St.bZ at h0 ⊢;have hl:¬232<p.data.toList.length:=by simp;omega
   rw[if_neg hl]at h0 ⊢
   split
   .rfl
   .rename_i h1;rw[if_neg h1]at h0;exact absurd rfl h0
  rw[e]at HH ⊢;exact⟨⟨⟨HH,h.V,h.N⟩,rfl⟩,.inr ⟨rfl,λ_=>rfl⟩⟩
theorem TS{l:Int}(h:(a.at l).isSome=true)(j:Int):(a.aV l).1.aP j=if j=l then([],3)else a.aP j:=by
 obtain⟨h0,h1⟩:=pA h;have hat:(a.aV l).1.at j=if j=l then none else a.at j:=by
  unfold St.aV;rw[if_pos h];unfold St.at
  by_cases hj:0<=j
  .rw[if_pos hj,if_pos hj];show((a.now.set l.toNat none)[j.toNat]?).getD none=_
   by_cases e:j=l
   .subst e;rw[if_pos rfl,eu h1];rfl
   .rw[if_neg e,iu (by omega)]
  .rw[if_neg hj,gc,if_neg hj]
 unfold St.aP;rw[hat]
 by_cases e:j=l
 .rw[if_pos e,if_pos e]
 .rw[if_neg e,if_neg e]
theorem Wp.drop(h:Wp q n K)(p:Int):Nx q (q.aV p).1 n K/\
  (((q.vw p).2=0/\(q.aV p).2=0/\∀j,(q.aV p).1.vw j=if j=p then([],3)else q.vw j)\/(q.vw p=([],3)/\(q.aV p).2=3/\∀j,(q.aV p).1.vw j=q.vw j)):=by
 have HH:=h.H.drop p;have hold:(q.a.aV p).1.bj=q.a.bj:=by unfold St.aV;split<;>rfl
 unfold QS.aV at HH ⊢;have hnh:¬(0<=findF q.l p/\0<(kA q.l (findF q.l p).toNat).held):=λ⟨h1,h2⟩=>by
  rcases ix q.l p with e|⟨k,f,e,hk,_,_⟩
  .omega
  .rw[e,show((k:Nat):Int).toNat=k by omega,oU hk,h.N f (aA hk)]at h2;omega
 rw[if_neg hnh]at HH ⊢
 by_cases hx:(q.a.at p).isSome=true
 .have e0:(q.a.aV p).2=0:=by unfold St.aV;rw[if_pos hx]
  have hr:=TS hx;rw[if_neg (by rw[e0];simp)]at HH ⊢
  rcases ix q.l p with e|⟨k,f,e,hk,he,Eu⟩
  .rw[e,gc]at HH ⊢;have Eu:=(pA hx).1;have tY:=Ch e Eu;have hv:q.vw p=q.a.aP p:=eW (.inr tY);have V':Vi {q with a:=(q.a.aV p).1}:=⟨h.V.un,λf hf h0 hd=>by show(q.a.aV p).1.aP _=_;rw[hr,if_neg (tY f hf)];exact h.V.cl f hf h0 hd,λf hf h0=>by show((q.a.aV p).1.aP _).2=_;rw[hr,if_neg (tY f hf)];exact h.V.ex f hf h0,h.V.em,h.V.fl⟩;refine⟨⟨⟨HH,V',h.N⟩,hold⟩,.inl ⟨by rw[hv];exact wj.2 hx,rfl,λj=>?_⟩⟩
   rcases iA q j with ho|⟨i,f,hi,rfl,hp⟩
   .rw[eW (q:={q with a:=(q.a.aV p).1}) ho,eW ho];exact hr j
   .rw[if_neg (tY f (aA hi)),h.V.jY hi hp];exact V'.jY hi hp
  .rw[e,g8,show((k:Nat):Int).toNat=k by omega]at HH ⊢;have hv:q.vw p=(f.gI.data.toList,0):=by rw[<-he];exact h.V.jY hk (by omega)
   have ne:∀(i:Nat) (g:Fr),i≠k->q.l[i]?=some g->0<=g.ao->g.ao≠p:=λi g hi hg h0 e=>hi (h.V.un i k g f hg hk (by omega) h0);have bj:∀g∈q.l.set k Fr.nil,0<=g.ao->g∈q.l/\g.ao≠p:=λg hg h0=>by
    rcases mem_set hg with rfl|⟨i,hi,qk⟩
    .exact absurd h0 (by show ¬(0:Int)<= -1;omega)
    .exact⟨aA qk,ne i g hi qk h0⟩
   have V':Vi {q with a:=(q.a.aV p).1,l:=q.l.set k Fr.nil}:=by
    refine⟨λi j f1 h1 hi hj ee h0=>?_,λg hg h0 hd=>?_,λg hg h0=>?_,λg hg h0=>?_,λg hg h0=>h.V.fl g (bj g hg h0).1 h0⟩
    .have gt:∀(i:Nat) (x:Fr),(q.l.set k Fr.nil)[i]?=some x->0<=x.ao->q.l[i]?=some x:=λi x hx h0=>by
      by_cases xd:i=k
      .subst xd;rw[eu ((aR.1 hk).1)]at hx;injection hx with hx
       subst hx;exact absurd h0 (by show ¬(0:Int)<= -1;omega)
      .rw[iu (by omega)]at hx;exact hx
     exact h.V.un i j f1 h1 (gt i f1 hi h0) (gt j h1 hj (by omega)) ee h0
    .obtain⟨o1,o2⟩:=bj g hg h0;show(q.a.aV p).1.aP _=_;rw[hr,if_neg o2];exact h.V.cl g o1 h0 hd
    .obtain⟨o1,o2⟩:=bj g hg h0;show((q.a.aV p).1.aP _).2=_;rw[hr,if_neg o2];exact h.V.ex g o1 h0
    .rcases mem_set hg with rfl|⟨i,hi,qk⟩
     .rfl
     .exact h.V.em g (aA qk) h0
   refine⟨⟨⟨HH,V',λg hg=>?_⟩,hold⟩,.inl ⟨by rw[hv],rfl,λj=>?_⟩⟩
   .rcases mem_set hg with rfl|⟨i,hi,qk⟩
    .rfl
    .exact h.N g (aA qk)
   .by_cases hj:j=p
    .subst hj;rw[if_pos rfl,eW (q:={q with a:=(q.a.aV j).1,l:=q.l.set k Fr.nil}) (.inr λg hg e=>(bj g hg (by omega)).2 e)];show(q.a.aV j).1.aP j=_;rw[hr,if_pos rfl]
    .rw[if_neg hj]
     rcases iA q j with ho|⟨i,g,hi,rfl,hp⟩
     .have ho':j<0\/∀g∈q.l.set k Fr.nil,g.ao≠j:=by
       by_cases hj0:j<0
       .exact .inl hj0
       .refine .inr λg hg=>?_
        rcases mem_set hg with rfl|⟨i,hi,qk⟩
        .show(-1:Int)≠j;omega
        .exact ho.resolve_left hj0 g (aA qk)
      rw[eW ho,eW (q:={q with a:=(q.a.aV p).1,l:=q.l.set k Fr.nil}) ho'];show(q.a.aV p).1.aP j=_;rw[hr,if_neg hj]
     .rw[h.V.jY hi hp];refine V'.jY (k:=i) ?_ hp;show(q.l.set k Fr.nil)[i]?=_;rw[iu]
      .exact hi
      .rintro rfl;rw[hk]at hi;injection hi with hi
       subst hi;exact hj he
 .have hx2:(q.a.aV p)=(q.a,3):=by unfold St.aV;rw[if_neg hx]
  have hr3:(q.a.aP p).2≠0:=λh=>hx (wj.1 h);rw[hx2,i9]at HH ⊢;refine⟨⟨⟨HH,h.V,h.N⟩,rfl⟩,.inr ⟨?_,rfl,λ_=>rfl⟩⟩;refine(Is q p).resolve_left (λh0=>?_)
  rcases iA q p with ho|⟨i,g,hi,rfl,hp⟩
  .rw[eW ho]at h0;exact hr3 h0
  .exact hr3 (h.V.ex g (aA hi) hp)
end
open Go.RowKit Go.Sort Go.Shelf
variable{w:YB}
def Kh:Go.Shelf.Ren:=⟨fun|189=>190|125=>224|257=>223|128=>240|129=>241|294=>231|295=>232|296=>233|297=>234|298=>235|299=>236|216=>237|300=>238|301=>239|328=>246|329=>247|330=>248|331=>249|332=>250|215=>251|343=>254|n=>n,fun|28=>60|3=>3|46=>201|0=>0|51=>259|53=>222|4=>4|183=>288|182=>287|131=>121|5=>5|9=>9|218=>298|222=>128|228=>305|229=>306|n=>n,fun|n=>n⟩
theorem Rh:Go.Proofs.Lays.n189 prog Kh:={
 mixed:=by kernel_rfl
 f125:=func224.trans (congrArg some (by kernel_rfl))
 f128:=func240.trans (congrArg some (by kernel_rfl))
 f129:=func241.trans (congrArg some (by kernel_rfl))
 f189:=func190.trans (congrArg some (by kernel_rfl))
 f215:=func251.trans (congrArg some (by kernel_rfl))
 f216:=func237.trans (congrArg some (by kernel_rfl))
 f257:=func223.trans (congrArg some (by kernel_rfl))
 f294:=func231.trans (congrArg some (by kernel_rfl))
 f295:=func232.trans (congrArg some (by kernel_rfl))
 f296:=func233.trans (congrArg some (by kernel_rfl))
 f297:=func234.trans (congrArg some (by kernel_rfl))
 f298:=func235.trans (congrArg some (by kernel_rfl))
 f299:=func236.trans (congrArg some (by kernel_rfl))
 f300:=func238.trans (congrArg some (by kernel_rfl))
 f301:=func239.trans (congrArg some (by kernel_rfl))
 f328:=func246.trans (congrArg some (by kernel_rfl))
 f329:=func247.trans (congrArg some (by kernel_rfl))
 f330:=func248.trans (congrArg some (by kernel_rfl))
 f331:=func249.trans (congrArg some (by kernel_rfl))
 f332:=func250.trans (congrArg some (by kernel_rfl))
 f343:=func254.trans (congrArg some (by kernel_rfl))
 t0:=underlying0
 a0:=Tryz.isAgg0
 z0:=Tryz.sizeOf0
 v0:=Tryz.zeroValue0
 t3:=underlying3
 a3:=Tryz.isAgg3
 z3:=Tryz.sizeOf3
 v3:=Tryz.zeroValue3
 t4:=underlying4
 a4:=Tryz.isAgg4
 z4:=Tryz.sizeOf4
 v4:=Tryz.zeroValue4
 t5:=underlying5
 a5:=Tryz.isAgg5
 z5:=Tryz.sizeOf5
 v5:=Tryz.zeroValue5
 t9:=underlying9
 a9:=Tryz.isAgg9
 z9:=Tryz.sizeOf9
 v9:=Tryz.zeroValue9
 t28:=underlying60
 a28:=Tryz.isAgg60
 z28:=Tryz.sizeOf60
 v28:=Tryz.zeroValue60
 t46:=underlying201
 a46:=Tryz.isAgg201
 z46:=Tryz.sizeOf201
 v46:=Tryz.zeroValue201
 t51:=underlying259
 a51:=Tryz.isAgg259
 z51:=Tryz.sizeOf259
 v51:=Tryz.zeroValue259
 t53:=underlying222
 a53:=Tryz.isAgg222
 z53:=Tryz.sizeOf222
 v53:=Tryz.zeroValue222
 t131:=underlying121
 a131:=Tryz.isAgg121
 z131:=Tryz.sizeOf121
 v131:=Tryz.zeroValue121
 t182:=underlying287
 a182:=Tryz.isAgg287
 z182:=Tryz.sizeOf287
 v182:=Tryz.zeroValue287
 t183:=underlying288
 a183:=Tryz.isAgg288
 z183:=Tryz.sizeOf288
 v183:=Tryz.zeroValue288
 t218:=underlying298
 a218:=Tryz.isAgg298
 z218:=Tryz.sizeOf298
 v218:=Tryz.zeroValue298
 t222:=underlying128
 a222:=Tryz.isAgg128
 z222:=Tryz.sizeOf128
 v222:=Tryz.zeroValue128
 t228:=underlying305
 a228:=Tryz.isAgg305
 z228:=Tryz.sizeOf305
 v228:=Tryz.zeroValue305
 t229:=underlying306
 a229:=Tryz.isAgg306
 z229:=Tryz.sizeOf306
 v229:=Tryz.zeroValue306}
def Ck(l:List Int):List Int:=l.mergeSort λx y=>decide (x<=y)
theorem tg(l:List Int):(Ck l).length=l.length:=by unfold Ck;simp
theorem XS(g cap:Nat)(zs:List Int)(w:YB)(hH:Holds (Value.int By) w g 0 zs.toArray)(hblk:g<w.heap.size)(oq:zs.length<4611686018427387904):
  eq prog 190 #[U3 (lc g) zs.length cap] w λe w'=>e=BY (U8 #[])/\∃n os,w'=grow (putRow (Value.int By) (Sort.ahead w n) g 0 (Ck zs).toArray) os:=
 Any.slices_Sort_int Rh g 0 cap zs w hH hblk oq
theorem TU(p:Option Addr)(cap:Nat)(w:YB):
  eq prog 190 #[U3 p 0 cap] w λe w'=>e=BY (U8 #[])/\w'=w:=
 Any.slices_Sort_int_none Rh p cap w
theorem Ki{g n:Nat}{os:Array Obj}(d:Array Int):ag [g] w (grow (putRow (Value.int By) (Sort.ahead w n) g 0 d) os):=by
 refine⟨rfl,rfl,rfl,by simp,λk hk fF=>?_⟩;rw[heap_grow_old _ _ (by simpa using hk)];have:g≠k:=λe=>fF (by simp[e]);simp[putRow,mapBlock,Sort.ahead,Array.getElem?_modify,this]
theorem It(ts:List Int)(cur rest:List Value)(h:ts.length=cur.length):putCells (Value.int By) 0 ts.toArray (cur++rest).toArray=(ts.map (Value.int By)++rest).toArray:=by
 apply Array.ext_getElem?;intro j;unfold putCells;rw[Array.getElem?_mapIdx,cN,cN]
 by_cases hc:j<ts.length
 .rw[bE (by omega),bE (by simpa using hc),ir,aH hc,aH (show j<cur.length by omega)];simp[hc]
 .rw[dQ (by omega),dQ (by simp;omega),bM,h]
  cases rest[j-cur.length]? with
  |none=>rfl
  |some x=>
   simp only[mf];rw[if_neg (by simp;omega)]
theorem XT{v:Value}{l:List Int}(S:aM w 3 1 v l.length (dH l))(hl:l.length<=1000000):
  eq prog 190 #[v] w λe w'=>e=BY (U8 #[])/\aM w' 3 1 v l.length (dH (Ck l))/\ag (ah v) w w':=by
 rcases S.2 with⟨rfl,h0⟩|⟨g,cap,rest,rfl,B,hc,hm⟩
 .rw[h0];have JE:l=[]:=GQ.1 h0;subst JE;go_call (TU none 0 w) as e w' ⟨rfl,rfl⟩;exact⟨rfl,by simpa [Ck,dH]using aM.nil w' 3 1,ag.refl _ _⟩
 .obtain⟨lo,hi,hb,hf⟩:=B;have hB:aF w g 3 (dH l++rest).toArray:=⟨lo,hi,hb,hf⟩;have hn:(dH l).length=l.length:=by unfold dH;simp
  have hH:Holds (Value.int By) w g 0 l.toArray:=by
   intro j hj;have hj':j<l.length:=by simpa using hj
   refine⟨?_,?_⟩
   .rw[bq];refine hB.ab ?_;rw[cN,bE (by rw[hn];exact hj')];simp[dH,hj']
   .rw[bq];exact hB.frozen j (by simp[hn];omega)
  go_call (XS g cap l w hH (Array.getElem?_eq_some_iff.1 hb).1 (by omega)) as e w' ⟨rfl,n,os,rfl⟩;refine⟨rfl,⟨by unfold dH;simp[tg],.inr ⟨g,cap,rest,rfl,⟨lo,hi,?_,?_⟩,by unfold dH at hc ⊢;simpa [tg]using hc,hm⟩⟩,?_⟩
  .rw[heap_sortedI _ hb,It _ _ _ (by rw[hn,tg])];rfl
  .simpa [dH,tg]using hf
  .simpa [ah]using Ki (w:=w) (g:=g) (n:=n) (os:=os) (Ck l).toArray
end Sh
end Go.Proofs.YtmonobkginiajaaGreat
