/- packed. -/
import Derived.Shelf.Sort.Plain
import Derived.Shelf.Slices.In.SortNone
import Derived.Sort.OwnSortedInts
import Derived.Test.YtmonobkginiajaaGreatB5
set_option linter.all false
set_option maxRecDepth 100000
set_option maxHeartbeats 8000000
namespace Go.Proofs.YtmonobkginiajaaGreat
open Go.Proofs.Tryz
namespace Sh
open Go.RowKit Pk Dk Pg
structure Zc(c:C)(n:Nat)(a:St)(K:Nat):Prop where
 g:Good c n
 R:iU c.d n c.ep c.slot c.bX c.parts
 e:∃k,a=(c.bR n).pad k
 bc:c.d.calls<=40*K
 be:c.ep<=K
section
variable{c:C}{n:Nat}{a:St}{K:Nat}
theorem Zc.more(z:Zc c n a K){K':Nat}(h:K<=K'):Zc c n a K':=⟨z.g,z.R,z.e,by have:=z.bc;omega,by have:=z.be;omega⟩
theorem Zc.read(z:Zc c n a K)(l:Int):c.aP n l=a.aP l:=by
 obtain⟨k,e⟩:=z.e;rw[vF z.g,e];unfold St.aP;rw[Ll]
theorem Zc.ep0(z:Zc c n a K)(hK:K<=1000000000000):0<=c.ep/\c.ep<=1099511627776:=by have:=z.g.ep;omega
theorem Zc.calls(z:Zc c n a K)(hK:K<=1000000000000):c.d.calls<=3999999999999999900/\c.d.bt<=9223372036854775807:=by
 have:=z.bc;have:=z.g.arm
 constructor<;>omega
theorem Zc.tab(z:Zc c n a K)(k:Nat):c.table.getD k 0<=1024:=by
 have hm:c.m.length<=1024:=by rw[z.g.ml];unfold fi;omega
 by_cases hk:k<c.table.length
 .simp only[List.getD,aL hk,jc];have:=z.g.ti _ (jJ hk);omega
 .simp only[List.getD];rw[gu (by omega)];show(0:Int)<=1024;omega
theorem Zc.new(z:Zc c n a K)(p:List UInt8):Zc (c.bV n p).1 n (a.bV p).1 (K+1)/\(c.bV n p).2=(a.bV p).2:=by
 obtain⟨k,ek⟩:=z.e;obtain⟨k',ep⟩:=pad_new (c.bR n) k p;rw[<-ek]at ep;obtain⟨g1,g2,g3,g4,g5,g6⟩:=Tw z.g p;have qb:=Li c n p;exact⟨⟨g1,by rw[qb.1,qb.2.1,qb.2.2.1,qb.2.2.2.1];exact Lh z.g z.R _,⟨k',by rw[ep,g2]⟩,by have:=z.bc;omega,by rw[qb.2.2.1];have:=z.be;omega⟩,by rw[ep];exact g3⟩
theorem Zc.write(z:Zc c n a K)(l:Int)(p:List UInt8):Zc (c.aD n l p).1 n (a.aD l p).1 (K+1)/\(c.aD n l p).2=(a.aD l p).2:=by
 obtain⟨k,ek⟩:=z.e;have ep:=Qc (c.bR n) k l p;rw[<-ek]at ep;obtain⟨g1,g2,g3,g4⟩:=Ld z.g l p;have qb:=E9 c n l p;exact⟨⟨g1,by rw[qb.1,qb.2.1,qb.2.2.1,qb.2.2.2.1];exact E6 z.g z.R _ _,⟨k,by rw[ep,g2]⟩,by have:=z.bc;omega,by rw[qb.2.2.1];have:=z.be;omega⟩,by rw[ep];exact g3⟩
theorem Zc.drop(z:Zc c n a K)(l:Int):Zc (c.aV l).1 n (a.aV l).1 K/\(c.aV l).2=(a.aV l).2:=by
 obtain⟨k,ek⟩:=z.e;have ep:=TR (c.bR n) k l;rw[<-ek]at ep;obtain⟨g1,g2,g3,g4,g5,g6⟩:=PM z.g l;have qb:(c.aV l).1.ep=c.ep/\(c.aV l).1.slot=c.slot:=by
  unfold C.aV
  split<;>exact⟨rfl,rfl⟩
 exact⟨⟨g1,by rw[g4,g5,g6,qb.1,qb.2];exact z.R,⟨k,by rw[ep,g2]⟩,by rw[g4];exact z.bc,by rw[qb.1];exact z.be⟩,by rw[ep];exact g3⟩
theorem Zc.abort(z:Zc c n a K):Zc c.cq n {a with now:=iT a.bX} K:=by
 obtain⟨k,ek⟩:=z.e;obtain⟨g1,g2,g3⟩:=Lb z.g;exact⟨g1,by show iU c.d n c.ep c.slot c.bX c.parts;exact z.R,⟨0,by rw[p9,g2,ek];rfl⟩,z.bc,z.be⟩
theorem Zc.bX(z:Zc c n a K):c.bX.length<=512:=by have:=z.R.ro.2.2.2.1;omega
theorem Zc.ko(z:Zc c n a K)(tl:c.table.length<=512)(hK:K<=1000000000000):Zc (c.aK n).1 n a.aK.1 (K+1)/\(c.aK n).2=a.aK.2:=by
 obtain⟨k,ek⟩:=z.e;have hbe:=z.be;have hae2:a.free=(c.bR n).free:=by rw[ek,zA]
 have NJ:a.eg=(c.bR n).eg:=by rw[ek,TU]
 by_cases hf:(c.bR n).free<cM (c.bR n).eg.length
 .rw[Hc z.g hf,show a.aK=(a,11) by unfold St.aK;rw[hae2,NJ,if_pos hf]];obtain⟨t1,t2⟩:=CE z.g;exact⟨⟨t1,by show iU c.d n c.ep c.slot c.bX c.parts;exact z.R,⟨_,by rw[ek,t2,pad_pad]⟩,by show c.d.calls<=_;have:=z.bc;omega,by show c.ep<=_;omega⟩,rfl⟩
 .obtain⟨c',d1,d2,d3,d4,d5,d6,d7,d8⟩:=Hd z.g z.R (by omega) tl hf;rw[d1,show a.aK=({a with now:=iT a.eg,bX:=a.eg,ep:=a.ep+1},0) by unfold St.aK;rw[hae2,NJ,if_neg hf]];exact⟨⟨d2,d3,⟨0,by rw[p9,d6,NJ,ek];rfl⟩,by show c'.d.calls<=_;have:=z.bc;omega,by show c'.ep<=_;rw[d8];omega⟩,rfl⟩
end
section
variable{w:World}{x:X}{c:C}{n:Nat}{a:St}{K:Nat}
theorem Lo(h:At w x n c)(z:Zc c n a K)(hK:K<=1000000000000)(l:Int)(s:ByteArray)(hs:s.size<=9223372036854775807):
  Calls prog 147 #[sp x.b,.int .i64 l,.string s] w λe w'=>e=.returned (.int .i64 (a.aD l s.data.toList).2)/\∃c',At w' x n c'/\Zc c' n (a.aD l s.data.toList).1 (K+1)/\ag x.fp w w':=by
 have zw:=z.write l s.data.toList;rw[<-zw.2];exact(KQ h l s hs (z.ep0 hK) (by have:=(z.calls hK).1;omega) (z.calls hK).2 z.tab).mono λe w' ⟨r,A,o⟩=>⟨r,_,A,zw.1,o⟩
theorem Qf(h:At w x n c)(z:Zc c n a K)(l:Int):
  Calls prog 228 #[sp x.b,.int .i64 l] w λe w'=>e=.returned (.tuple #[.string ⟨(a.aP l).1.toArray⟩,.int .i64 (a.aP l).2])/\Below w.heap.size w w':=by
 rw[<-z.read l];exact Sh.nH h l
theorem Lq(h:At w x n c)(z:Zc c n a K):
  Calls prog 101 #[sp x.b] w λe w'=>e=.returned (.bool true)/\∃c',yb w w' x n c'/\Zc c' n {a with now:=iT a.bX} K:=
 (La h z.bX).mono λe w' ⟨r,p⟩=>⟨r,_,p,z.abort⟩
theorem Hg(h:At w x n c)(z:Zc c n a K)(hK:K<=1000000000000):
  Calls prog 100 #[sp x.b] w λe w'=>e=.returned (.int .i64 a.aK.2)/\∃c',yb w w' x n c'/\Zc c' n a.aK.1 (K+1):=by
 have hm:c.m.length<=1024:=by rw[z.g.ml];unfold fi;omega
 have zc:=z.ko h.tl hK;rw[<-zc.2];exact(Hf h z.g.br (z.ep0 hK).1 (λy hy=>by have:=z.g.ti y hy;omega) z.g.sl (z.calls hK).1 (z.calls hK).2 (Rt.kK z.R.ro) (λhf he=>by
  obtain⟨mT,P,e,_,_,_,_,_,t6,t7⟩:=oR z.g h.tl hf;rw[e];exact⟨by rw[t6];exact t7,t6⟩)).mono λe w' ⟨r,p⟩=>⟨r,_,p,zc.1⟩
end
structure QS where
 a:St
 l:List Fr
 hand:Nat
def QS.ps(q:QS)(c:C):PS:=⟨c,q.l,q.hand⟩
def QS.turn(s:QS):QS:={s with hand:=(s.hand+1) % s.l.length}
def QS.j0:Nat->QS->QS×Int
 |0,s=>(s,-1)
 |m+1,s=>
  if 0<(jO s.l s.hand).held then QS.j0 m s.turn
  else if(jO s.l s.hand).used=true then QS.j0 m {s.turn with l:=s.l.set s.hand {jO s.l s.hand with used:=false}}
  else(s.turn,(s.hand:Int))
def QS.aN(s:QS):QS×Int:=
 if 0<=Gj (λf=>decide (f.aq<0)) s.l then(s,Gj (λf=>decide (f.aq<0)) s.l)else s.j0 (2*s.l.length+1)
def QS.bT(s:QS)(k:Nat):QS×Int:=
 if(jO s.l k).cD=true then
  if(s.a.aD (jO s.l k).aq (jO s.l k).fS.data.toList).2=0 then({s with a:=(s.a.aD (jO s.l k).aq (jO s.l k).fS.data.toList).1,l:=s.l.set k {jO s.l k with cD:=false}},0)
  else({s with a:=(s.a.aD (jO s.l k).aq (jO s.l k).fS.data.toList).1},(s.a.aD (jO s.l k).aq (jO s.l k).fS.data.toList).2)
 else(s,0)
def QS.bh(s:QS)(p:Int):QS×ByteArray×Int:=
 if 0<=findF s.l p then
  ({s with l:=s.l.set (findF s.l p).toNat {jO s.l (findF s.l p).toNat with held:=(jO s.l (findF s.l p).toNat).held+1,used:=true}},(jO s.l (findF s.l p).toNat).fS,0)
 else if(s.a.aP p).2≠0 then(s,⟨#[]⟩,(s.a.aP p).2)
 else if s.aN.2<0 then(s.aN.1,⟨#[]⟩,12)
 else if(s.aN.1.bT s.aN.2.toNat).2≠0 then((s.aN.1.bT s.aN.2.toNat).1,⟨#[]⟩,(s.aN.1.bT s.aN.2.toNat).2)
 else({(s.aN.1.bT s.aN.2.toNat).1 with l:=(s.aN.1.bT s.aN.2.toNat).1.l.set s.aN.2.toNat ⟨p,⟨(s.a.aP p).1.toArray⟩,1,false,true⟩},⟨(s.a.aP p).1.toArray⟩,0)
def QS.iA(s:QS)(p:Int):Option (Nat×Fr):=
 if findF s.l p<0 then none else match s.l[(findF s.l p).toNat]? with
  |none=>none
  |some f=>if f.held=0 then none else some ((findF s.l p).toNat,f)
def QS.iI(s:QS)(p:Int):QS×Int:=match s.iA p with
 |none=>(s,16)
 |some (k,f)=>({s with l:=s.l.set k {f with held:=f.held-1}},0)
def rR(s:ByteArray):ByteArray:=⟨(eP s.data.toList 232).toArray⟩
def QS.fK(s:QS)(p:Int)(b:ByteArray):QS×Int:=
 if 232<b.size then(s,4)else match s.iA p with
 |none=>(s,16)
 |some (k,f)=>({s with l:=s.l.set k {f with fS:=rR b,cD:=true,used:=true}},0)
def QS.dK(s:QS)(p:Int):QS×ByteArray×Int:=
 if(s.bh p).2.2≠0 then((s.bh p).1,⟨#[]⟩,(s.bh p).2.2)else(((s.bh p).1.iI p).1,(s.bh p).2.1,0)
def QS.dM(s:QS)(p:Int)(b:ByteArray):QS×Int:=
 if 232<b.size then(s,4)else if(s.bh p).2.2≠0 then((s.bh p).1,(s.bh p).2.2)else((((s.bh p).1.fK p b).1.iI p).1,0)
def QS.aV(s:QS)(p:Int):QS×Int:=
 if 0<=findF s.l p/\0<(jO s.l (findF s.l p).toNat).held then(s,16)
 else if(s.a.aV p).2≠0 then({s with a:=(s.a.aV p).1},(s.a.aV p).2)
 else if 0<=findF s.l p then({s with a:=(s.a.aV p).1,l:=s.l.set (findF s.l p).toNat Fr.nil},0)
 else({s with a:=(s.a.aV p).1},0)
def QS.eU(s:QS)(i:Int):QS×Int:=
 if i<0\/(s.l.length:Int)<=i then(s,3)
 else if(jO s.l i.toNat).aq<0 then(s,0)
 else if 0<(jO s.l i.toNat).held then(s,16)
 else if(s.bT i.toNat).2≠0 then s.bT i.toNat
 else({(s.bT i.toNat).1 with l:=(s.bT i.toNat).1.l.set i.toNat Fr.nil},0)
def QS.ur(s:QS):Nat:=s.l.countP λf=>decide (0<f.held)
def QS.bn(s:QS):Nat->QS×Int
 |0=>(s,0)
 |k+1=>if(s.bn k).2≠0 then s.bn k else(s.bn k).1.bT k
def QS.aK(s:QS):QS×Int:=
 if 0<s.ur then(s,16)
 else if(s.bn s.l.length).2≠0 then s.bn s.l.length
 else({(s.bn s.l.length).1 with a:=(s.bn s.l.length).1.a.aK.1},(s.bn s.l.length).1.a.aK.2)
def QS.cq(s:QS):QS:={s with a:={s.a with now:=iT s.a.bX},l:=List.replicate s.l.length Fr.nil}
def QS.bV(s:QS)(p:List UInt8):QS×Int×Int:=({s with a:=(s.a.bV p).1},(s.a.bV p).2)
theorem Fe(c:C):∀(m:Nat) (q:QS),(q.ps c).j0 m=((q.j0 m).1.ps c,(q.j0 m).2)
 |0,_=>rfl
 |m+1,q=>by
  unfold PS.j0 QS.j0;show(if 0<(jO q.l q.hand).held then _ else _)=_
  split
  .exact Fe c m q.turn
  .show(if(jO q.l q.hand).used=true then _ else _)=_
   split
   .exact Fe c m {q.turn with l:=q.l.set q.hand {jO q.l q.hand with used:=false}}
   .rfl
theorem vO(c:C)(q:QS):(q.ps c).aN=(q.aN.1.ps c,q.aN.2):=by
 unfold PS.aN QS.aN;show(if 0<=Gj (λf=>decide (f.aq<0)) q.l then _ else _)=_
 split
 .rfl
 .exact Fe c _ q
theorem Ff(c:C)(q:QS)(p:Int):(q.ps c).iA p=q.iA p:=rfl
theorem let_ps(c:C)(q:QS)(p:Int):(q.ps c).iI p=((q.iI p).1.ps c,(q.iI p).2):=by
 unfold PS.iI QS.iI;rw[Ff]
 cases q.iA p with
 |none=>rfl
 |some kf=>rfl
theorem Lr:∀(m:Nat) (q:QS),(q.j0 m).1.a=q.a/\(q.j0 m).1.l.length=q.l.length
 |0,_=>⟨rfl,rfl⟩
 |m+1,q=>by
  unfold QS.j0
  split
  .exact Lr m q.turn
  .split
   .have h:=Lr m {q.turn with l:=q.l.set q.hand {jO q.l q.hand with used:=false}};exact⟨h.1,by rw[h.2,bW]⟩
   .exact⟨rfl,rfl⟩
theorem jA(q:QS):q.aN.1.a=q.a/\q.aN.1.l.length=q.l.length:=by
 unfold QS.aN
 split
 .exact⟨rfl,rfl⟩
 .exact Lr _ q
attribute [local go_sem ↓] Go.wp_at_zero Go.wp_at_succ
variable{w:World}{y:Y}{n K K':Nat}{q:QS}{l:List Fr}{f:Fr}
def ZP(w:World)(y:Y)(n:Nat)(q:QS)(K:Nat):Prop:= ∃c,ib w y n (q.ps c)/\Zc c n q.a K
theorem ZP.below{w':World}(h:ZP w y n q K)(hb:Below w.heap.size w w'):ZP w' y n q K:=by
 obtain⟨c,A,z⟩:=h;exact⟨c,A.below hb,z⟩
theorem ZP.more(h:ZP w y n q K)(hk:K<=K'):ZP w y n q K':=by
 obtain⟨c,A,z⟩:=h;exact⟨c,A,z.more hk⟩
theorem nt{k:Nat}(h:l[k]?=some f):jO l k=f:=by unfold jO;rw[h];rfl
theorem Lt{c:C}(h:ib w y n (q.ps c))(z:Zc c n q.a K)(hK:K<=1000000000000)(k:Nat)(hf:q.l[k]?=some f)(hd:f.cD=true)(hs:f.fS.size<=1000):
  Calls prog 99 #[pp y.pb,.int .i64 (k:Nat)] w λe w'=>e=.returned (.int .i64 (q.bT k).2)/\ZP w' y n (q.bT k).1 (K+1)/\ag y.fp w w':=by
 have hk:k<q.l.length:=(aS.1 hf).1;have p1:w.cell? ⟨y.pb,1,none⟩=some (.slice (some ⟨y.fg,0,none⟩) q.l.length y.cp):=h.p1;have l2:q.l.length<=32:=h.l2;have Kh:(k:Int)<(q.l.length:Int):=by omega
 obtain⟨c0,c1,c2,c3,c4⟩:=h.yy k f hf;rw[hd]at c3;have KW:=xh (λ(W:World) (A:ib W y n (q.ps c))=>Lo A.hs z hK f.aq f.fS (by omega));have HP:=xh (λ(w1 w2:World) (c':C) (A1:ib w1 y n (q.ps c)) (A:At w2 y.x n c') (o:ag y.x.fp w1 w2)=>(show ib w2 y n (q.ps c')/\ag y.fp w1 w2 from A1.same A o));have AD:=xh h.drew;have OD:=xh ((ag.refl y.fp w).drew);have HF:=xh hf;obtain⟨R,hR⟩:∃R,q.a.aD f.aq f.fS.data.toList=R:=⟨_,rfl⟩
 have hB:q.bT k=if R.2=0 then({q with a:=R.1,l:=q.l.set k {f with cD:=false}},0)else({q with a:=R.1},R.2):=by
  unfold QS.bT;rw[nt hf,if_pos hd,hR]
 rw[hB];rw[hR]at KW;obtain⟨Ra,Re⟩:=R;dsimp only at KW ⊢;obtain⟨Q2,hQ⟩:∃Q2,(if Re=0 then(({q with a:=Ra,l:=q.l.set k {f with cD:=false}}:QS),(0:Int))else({q with a:=Ra},Re))=Q2:=⟨_,rfl⟩;rw[hQ];have HQ:=xh hQ;clear hQ;have S0:=xh (show(λW'=>W'.cell? ⟨y.pb,0,none⟩=some (.pointer (some ⟨y.x.b,0,none⟩))/\W'.cell? ⟨y.fg,k*5,none⟩=some (.int .i64 f.aq)/\W'.cell? ⟨y.fg,k*5+1,none⟩=some (.string f.fS)) w.drew from⟨AD.o.p0,(AD.o.yy k f hf).1,(AD.o.yy k f hf).2.1⟩)
 clear h z hf hd hB hR c0 c1 c2 c4;unfold pp sp at *;go_enter func99,ntmps99;go_wp2_with fail;refine wp_region_held_drew (S:=λW'=>W'.cell? ⟨y.pb,0,none⟩=some (.pointer (some ⟨y.x.b,0,none⟩))/\W'.cell? ⟨y.fg,k*5,none⟩=some (.int .i64 f.aq)/\W'.cell? ⟨y.fg,k*5+1,none⟩=some (.string f.fS)) (by kernel_rfl) (S0.o) (λah=>?_);refine bM [(0,18),(1,19),(2,20),(3,21),(4,22),(5,23),(6,24),(7,25),(8,26),(9,27),(10,28),(11,29)] ?_
 iterate 12 refine aG ?_
 refine bY 12 30 λK hK=>?_;go_simp
 go_at_call 147
 refine(KW.o _ AD.o).mono ?_;rintro e w5 ⟨rfl,c5,a5,z5,o5⟩;have P5:=HP.o w.drew w5 c5 AD.o a5 o5;have A5:=xh P5.1;have O5:=xh (OD.o.trans P5.2);have Z5:=xh z5;clear P5 a5 o5 z5;obtain⟨d0,d1,d2,d3,d4⟩:=A5.o.yy k f HF.o;have q0:=A5.o.p0;go_simp;refine aA hK (⟨q0,d0,d1⟩) (λah=>?_);refine bM [(13,6)] ?_
 iterate 1 refine aG ?_
 refine wpAnyH_done (by kernel_rfl) ?_ _;have hfs:=HF.o
 by_cases he:Re=0
 .subst he;have HR:=xh (HQ.o.symm.trans (if_pos rfl));clear HQ;obtain⟨z0,B0,qq⟩:=A5.o.fK k 3 (by omega) {f with cD:=false} (.bool false) HF.o rfl;have AZ:=xh B0;have OZ:=xh (O5.o.trans qq);clear B0 qq;go_wp2_with fail;go_ret;exact⟨by rw[HR.o];rfl,by rw[HR.o];exact⟨c5,AZ.o,Z5.o⟩,OZ.o⟩
 .have HR:=xh (HQ.o.symm.trans (if_neg he));clear HQ;have hq:(Re==0)=false:=by rw[beq_eq_false_iff_ne];exact he
  have kt:(Re != 0)=true:=by rw[bne_iff_ne];exact he
  go_wp2_with fail;go_ret;exact⟨by rw[HR.o];rfl,by rw[HR.o];exact⟨c5,A5.o,Z5.o⟩,O5.o⟩
theorem zC(h:ZP w y n q K)(hK:K<=1000000000000)(k:Nat)(hk:k<q.l.length)(hs:∀f∈q.l,f.fS.size<=1000):
  Calls prog 99 #[pp y.pb,.int .i64 (k:Nat)] w λe w'=>e=.returned (.int .i64 (q.bT k).2)/\ZP w' y n (q.bT k).1 (K+1)/\ag y.fp w w':=by
 obtain⟨c,A,z⟩:=h;have hf:=km hk
 by_cases hd:(jO q.l k).cD=true
 .exact Lt A z hK k hf hd (hs _ (ay hf))
 .unfold QS.bT;rw[if_neg hd];exact(Kr A k hf (by simpa using hd)).mono λe w' ⟨r,b⟩=>⟨r,⟨c,A.below b,z.more (by omega)⟩,.aj b⟩
theorem hold_go(h:ZP w y n q K)(hK:K<=1000000000000)(p:Int)(hk:findF q.l p= -1)(hr:(q.a.aP p).2=0)(k:Nat)(hv:q.aN.2=(k:Nat))(jx:k<q.l.length)(hs:∀f∈q.aN.1.l,f.fS.size<=1000):
  Calls prog 213 #[pp y.pb,.int .i64 p] w λe w'=>e=.returned (.tuple #[.string (q.bh p).2.1,.int .i64 (q.bh p).2.2])/\ZP w' y n (q.bh p).1 (K+1)/\ag y.fp w w':=by
 obtain⟨c,A,z⟩:=h;have KF:=xh (iS A p);rw[show(q.ps c).l=q.l from rfl,hk]at KF;have HB:=xh (λw' (hb:Below w.heap.size w w')=>A.below hb);have KR:=xh (λw' (hb:Below w.heap.size w w')=>Qf (A.below hb).hs z p);have KV:=xh (λw' (hb:Below w.heap.size w w')=>zg (A.below hb));rw[vO]at KV;rw[hr]at KR;rw[hv]at KV;have hvl:=(jA q).2;have Bv:=(jA q).1
 have hH:q.bh p=if(q.aN.1.bT k).2≠0 then((q.aN.1.bT k).1,⟨#[]⟩,(q.aN.1.bT k).2)else({(q.aN.1.bT k).1 with l:=(q.aN.1.bT k).1.l.set k ⟨p,⟨(q.a.aP p).1.toArray⟩,1,false,true⟩},⟨(q.a.aP p).1.toArray⟩,0):=by
  unfold QS.bh;rw[hk,if_neg (by omega),if_neg (by rw[hr];simp),hv,if_neg (by omega),show((k:Nat):Int).toNat=k by omega]
 rw[hH];clear hH;generalize (q.a.aP p).1=R at *;generalize q.aN.1=V at *;have KB:=xh (λw' (h:ZP w' y n V K)=>zC h hK k (by omega) hs);have rS:k<(V.bT k).1.l.length:=by
  unfold QS.bT
  split
  .split
   .show k<(V.l.set k _).length;rw[bW];omega
   .show k<V.l.length;omega
  .show k<V.l.length;omega
 generalize V.bT k=VB at *;obtain⟨B,be⟩:=VB;dsimp only at KB rS ⊢;obtain⟨Q2,hQ⟩:∃Q2,(if be≠0 then(B,(⟨#[]⟩:ByteArray),be)else(({B with l:=B.l.set k ⟨p,⟨R.toArray⟩,1,false,true⟩}:QS),⟨R.toArray⟩,0))=Q2:=⟨_,rfl⟩;rw[hQ];have HQ:=xh hQ;clear hQ;have HZ:=xh (show ∀W,ib W y n (V.ps c)->ZP W y n V K from λW h=>⟨c,h,by rw[Bv];exact z⟩);have PF:¬(k:Int)<0:=by omega
 clear A z hk hv hvl Bv hs hr;unfold pp sp at *;go_enter func213,ntmps213;go_wp2_with fail;refine KF.o.mono ?_;rintro e w1 ⟨rfl,bf⟩;have O1:=xh bf;have p0:=(HB.o w1 bf).p0;clear bf;go_wp2_with fail;refine(KR.o w1 O1.o).mono ?_;rintro e w2 ⟨rfl,cA⟩;have O2:=xh (aB O1.o cA);clear cA p0;go_wp2_with fail;refine(KV.o w2 O2.o).mono ?_;rintro e w3 ⟨rfl,A3,o3⟩;have Z3:=xh (HZ.o w3 A3);have o3:=xh ((ag.aj (S:=y.fp) O2.o).trans o3)
 clear A3;go_wp2_with fail;refine(KB.o w3 Z3.o).mono ?_;rintro e w4 ⟨rfl,z4,o4⟩;obtain⟨c4,A4,Z4⟩:=z4;have A4:=xh A4;have Z4:=xh Z4;have o4:=xh (o3.o.trans o4)
 by_cases he:be=0
 .subst he;have HR:=xh (HQ.o.symm.trans (if_neg (by simp)));clear HQ;have p1:w4.cell? ⟨y.pb,1,none⟩=some (.slice (some ⟨y.fg,0,none⟩) B.l.length y.cp):=A4.o.p1;have l2:B.l.length<=32:=A4.o.l2;have Kh:(k:Int)<(B.l.length:Int):=by omega
  obtain⟨f,HF⟩:∃f,Hid (B.l[k]?=some f):=⟨_,xh (aL rS)⟩;obtain⟨c0,c1,c2,c3,c4'⟩:=A4.o.yy k f HF.o;obtain⟨z0,B0,q0⟩:=A4.o.fK k 0 (by omega) {f with aq:=p} (.int .i64 p) HF.o rfl;rw[iw]at z0 B0 q0;have g0:(B.l.set k {f with aq:=p})[k]?=some {f with aq:=p}:=by rw[dO rS]
  obtain⟨z1,B1,q1⟩:=B0.fK k 1 (by omega) {f with aq:=p,fS:=⟨R.toArray⟩} (.string ⟨R.toArray⟩) g0 rfl;simp only[j7]at B1;have g1:(B.l.set k {f with aq:=p,fS:=⟨R.toArray⟩})[k]?=some {f with aq:=p,fS:=⟨R.toArray⟩}:=by rw[dO rS]
  obtain⟨z2,B2,q2⟩:=B1.fK k 2 (by omega) {f with aq:=p,fS:=⟨R.toArray⟩,held:=1} (.int .i64 1) g1 rfl;simp only[j7]at B2;have g2:(B.l.set k {f with aq:=p,fS:=⟨R.toArray⟩,held:=1})[k]?=some {f with aq:=p,fS:=⟨R.toArray⟩,held:=1}:=by rw[dO rS]
  obtain⟨z3,B3,q3⟩:=B2.fK k 3 (by omega) {f with aq:=p,fS:=⟨R.toArray⟩,held:=1,cD:=false} (.bool false) g2 rfl;simp only[j7]at B3;have g3:(B.l.set k {f with aq:=p,fS:=⟨R.toArray⟩,held:=1,cD:=false})[k]?=some {f with aq:=p,fS:=⟨R.toArray⟩,held:=1,cD:=false}:=by rw[dO rS]
  obtain⟨z4,B4,q4⟩:=B3.fK k 4 (by omega) ⟨p,⟨R.toArray⟩,1,false,true⟩ (.bool true) g3 rfl;simp only[j7]at B4;have AZ:=xh B4;have OZ:=xh (o4.o.trans ((((q0.trans q1).trans q2).trans q3).trans q4));clear B0 B1 B2 B3 B4 q0 q1 q2 q3 q4 g0 g1 g2 g3 rS;go_wp2_with fail;go_ret2;exact⟨by rw[HR.o];rfl,by rw[HR.o];exact⟨c4,AZ.o,Z4.o⟩,OZ.o⟩
 .have HR:=xh (HQ.o.symm.trans (if_pos he));clear HQ;have hq:(be==0)=false:=by rw[beq_eq_false_iff_ne];exact he
  have kt:(be != 0)=true:=by rw[bne_iff_ne];exact he
  clear rS;go_wp2_with fail;go_ret2;exact⟨by rw[HR.o];rfl,by rw[HR.o];exact⟨c4,A4.o,Z4.o⟩,o4.o⟩
def Fb(l:List Fr)(K:Nat):Prop:= ∀f∈l,0<=f.held/\f.held<=K/\f.fS.size<=1000
theorem Fb.set(h:Fb l K)(k:Nat)(hf:0<=f.held/\f.held<=K/\f.fS.size<=1000):Fb (l.set k f) K:=by
 intro g hg
 rcases yh hg with hg|rfl
 .exact h g hg
 .exact hf
theorem Fb.more(h:Fb l K)(hk:K<=K'):Fb l K':=λf hf=>by have:=h f hf;omega
theorem Fb.nil :0<=Fr.nil.held/\Fr.nil.held<=(K:Nat)/\Fr.nil.fS.size<=1000:=⟨jI _,by show(0:Int)<=_;omega,by decide⟩
theorem zD :∀(m:Nat) (s:QS),s.hand<s.l.length->Fb s.l K->Fb (s.j0 m).1.l K/\(s.j0 m).1.hand<(s.j0 m).1.l.length/\((s.j0 m).2= -1\/∃k:Nat,(s.j0 m).2=k/\k<s.l.length)
 |0,_,hl,hc=>⟨hc,hl,.inl rfl⟩
 |m+1,s,hl,hc=>by
  unfold QS.j0;have hf:=km hl;have hm:=hc _ (ay hf);have ht:(s.hand+1) % s.l.length<s.l.length:=qQ _ (by omega)
  split
  .exact zD m s.turn ht hc
  .split
   .have:=zD m {s.turn with l:=s.l.set s.hand {jO s.l s.hand with used:=false}} (by rw[bW];exact ht) (hc.set _ hm);rw[bW]at this;exact this
   .exact⟨hc,ht,.inr ⟨s.hand,rfl,hl⟩⟩
theorem sK(s:QS)(hl:s.hand<s.l.length)(hc:Fb s.l K):Fb s.aN.1.l K/\s.aN.1.hand<s.aN.1.l.length/\(s.aN.2= -1\/∃k:Nat,s.aN.2=k/\k<s.l.length):=by
 unfold QS.aN
 split
 .refine⟨hc,hl,?_⟩
  rcases ER (λf=>decide (f.aq<0)) s.l with e|⟨k,f,e,hf,_⟩
  .exact .inl e
  .exact .inr ⟨k,e,(aS.1 hf).1⟩
 .exact zD _ s hl hc
theorem q8(h:ZP w y n q K)(hb:Fb q.l K)(hK:K<=1000000000000)(p:Int):
  Calls prog 213 #[pp y.pb,.int .i64 p] w λe w'=>e=.returned (.tuple #[.string (q.bh p).2.1,.int .i64 (q.bh p).2.2])/\ZP w' y n (q.bh p).1 (K+1)/\ag y.fp w w':=by
 have h':=h;obtain⟨c,A,z⟩:=h
 rcases gM q.l p with e|⟨k,f,e,hf,_,_⟩
 .by_cases hr:(q.a.aP p).2=0
  .obtain⟨v1,v2,v3⟩:=sK q A.lh hb
   rcases v3 with v3|⟨k,v3,hk⟩
   .unfold QS.bh;rw[e,if_neg (by omega),if_neg (by rw[hr];simp),if_pos (by omega)];refine(PK A p e (by rw[show(q.ps c).c=c from rfl,z.read];exact hr) (by rw[vO];show q.aN.2<0;omega)).mono λe w' ⟨r,A',o⟩=>⟨r,?_,o⟩;rw[vO]at A';exact⟨c,A',by rw[(jA q).1];exact z.more (by omega)⟩
   .exact hold_go h' hK p e hr k v3 hk (λf hf=>(v1 f hf).2.2)
  .unfold QS.bh;rw[e,if_neg (by omega),if_pos hr];have hb:=Tn A p e (by rw[show(q.ps c).c=c from rfl,z.read];exact hr);rw[show(q.ps c).c=c from rfl,z.read]at hb;exact hb.mono λe w' ⟨h1,h2⟩=>⟨h1,⟨c,A.below h2,z.more (by omega)⟩,.aj h2⟩
 .unfold QS.bh;rw[e,if_pos (by omega),show((k:Nat):Int).toNat=k from by omega,nt hf];exact(Tm A p k e hf (by have:=hb f (ay hf);omega)).mono λe w' ⟨r,A',o⟩=>⟨r,⟨c,A',z.more (by omega)⟩,o⟩
variable{w:World}{y:Y}{n K:Nat}{s:PS}{q:QS}
theorem eA:(prog.info? 5).map (λi=>(i.zero,i.size,i.bytes))=some (some (.int .u8 0),1,1):=by kernel_rfl
theorem TY(n:Nat)(h1:n<=140737488355328)(w:World):
  (Instr.makeSlice 150 (.int .i64 n) (.int .i64 n)).run prog w=.ok (.slice (some ⟨w.heap.size,0,none⟩) n n) (w.alloc (.cells (dI (List.replicate n 0)).toArray 5)):=by
 obtain⟨i0,hi,kx,ju,kg⟩:=info_parts eA;have h:=run_make (P:=prog) w 150 5 i0 (.int .u8 0) underlying150 hi kx .i64 .i64 n n (by omega) (jI _) (by rw[kg];omega) (by omega);rw[h,ju];have e:madeCells (Value.int .u8 0).cells (((n:Int).toNat)*1)=(dI (List.replicate n 0)).toArray:=by
  show madeCells #[Value.int .u8 0] (n*1)=_;rw[Nat.mul_one,ie];simp[dI,bv]
 rw[e];rfl
theorem full_eq(b:ByteArray):b++(⟨(List.replicate (232-b.size) (0:UInt8)).toArray⟩:ByteArray)=rR b:=by
 apply mr;unfold rR eP;rw[Jx];simp
theorem zE{b:ByteArray}(h:b.size<=232):(rR b).size=232:=by
 have hl:b.data.toList.length=b.size:=by simp
 show(eP b.data.toList 232).toArray.size=232;unfold eP;simp;omega
theorem set_in(h:ib w y n s)(p:Int)(b:ByteArray)(hb:b.size<=232){k:Nat}{f:Fr}(hh:s.iA p=some (k,f)):
  Calls prog 219 #[pp y.pb,.int .i64 p,.string b] w λe w'=>e=.returned (.int .i64 0)/\ib w' y n {s with l:=s.l.set k {f with fS:=rR b,cD:=true,used:=true}}/\ag y.fp w w':=by
 have KH:=xh (zb h p);rw[hh]at KH;obtain⟨hf,_,_⟩:=zf hh;have jx:k<s.l.length:=(aS.1 hf).1;have l2:=h.l2;have HF:=xh hf;have HA:=xh (λW (hb:Below w.heap.size w W)=>h.below hb);have hbI:¬(232:Int)<(b.size:Int):=by omega
 obtain⟨m,hm⟩:∃m,232-b.size=m:=⟨_,rfl⟩;have em:IntKind.i64.wrap (232-(b.size:Int))=(m:Int):=by rw[show(232:Int)-(b.size:Int)=(m:Int) by omega];exact IntWalk.i64_in _ (by omega)
 have hmk:=λW=>TY m (by omega) W;have HCV:=xh (λ(W:World)=>(cg (P:=prog) (W.alloc (.cells (dI (List.replicate m 0)).toArray 5)) 150 9 5 underlying150 underlying5 underlying9 ⟨W.heap.size,0,none⟩ m m (List.replicate m 0) (by simp) (bq (aJ.new W 5 (dI (List.replicate m 0)).toArray) 0 _ (by intro j u hu;rw[bg];simpa using hu))));obtain⟨FB,hFB⟩:∃FB,rR b=FB:=⟨_,rfl⟩;have HCAT:=xh (full_eq b);rw[hFB]at HCAT;rw[hFB]
 rw[hm]at HCAT;have Ck:(0:Int)<=(m:Int):=by omega
 have pF:¬9223372036854775807<b.size+(⟨(List.replicate m (0:UInt8)).toArray⟩:ByteArray).size:=by
  have:(⟨(List.replicate m (0:UInt8)).toArray⟩:ByteArray).size=m:=by show(List.replicate m (0:UInt8)).toArray.size=m;simp
  omega
 have Kc:m<=232:=by omega
 generalize (⟨(List.replicate m (0:UInt8)).toArray⟩:ByteArray)=ZZ at *;generalize (dI (List.replicate m (0:UInt8))).toArray=ZC at *;clear h hh hf hm hb hFB;unfold pp ug at *;go_enter func219,ntmps219;go_wp2_with fail;refine KH.o.mono ?_;rintro e w1 ⟨rfl,bf⟩;have O1:=xh bf;have A1:=xh (HA.o _ (ae bf (.cells ZC 5)));have O1':=xh (ae bf (.cells ZC 5));clear bf;go_wp2_with fail;rw[HCV.o w1];clear hmk;generalize (w1.alloc (.cells ZC 5))=w2 at *
 have hcat:=HCAT.o;obtain⟨c0,c1,c2,c3,c4⟩:=A1.o.yy k f HF.o;obtain⟨z1,B1,q1⟩:=A1.o.fK k 1 (by omega) {f with fS:=FB} (.string (FB)) HF.o rfl;have g1:(s.l.set k {f with fS:=FB})[k]?=some {f with fS:=FB}:=by rw[dO jx]
 obtain⟨z2,B2,q2⟩:=B1.fK k 3 (by omega) {f with fS:=FB,cD:=true} (.bool true) g1 rfl;simp only[j7]at B2;have g2:(s.l.set k {f with fS:=FB,cD:=true})[k]?=some {f with fS:=FB,cD:=true}:=by rw[dO jx]
 obtain⟨z3,B3,q3⟩:=B2.fK k 4 (by omega) {f with fS:=FB,cD:=true,used:=true} (.bool true) g2 rfl;simp only[j7]at B3;have AZ:=xh B3;have OZ:=xh ((ag.aj (S:=y.fp) O1'.o).trans ((q1.trans q2).trans q3));clear B1 B2 B3 q1 q2 q3 g1 g2 jx;go_wp2_with fail;go_ret;exact aE ⟨AZ.o,OZ.o⟩
theorem set_out(h:ib w y n s)(p:Int)(b:ByteArray)(hb:b.size<=232)(hh:s.iA p=none):
  Calls prog 219 #[pp y.pb,.int .i64 p,.string b] w λe w'=>e=.returned (.int .i64 16)/\Below w.heap.size w w':=by
 have KH:=xh (zb h p);rw[hh]at KH;have hbI:¬(232:Int)<(b.size:Int):=by omega
 clear h hh hb;unfold pp ug at *;go_enter func219,ntmps219;go_wp2_with fail;refine KH.o.mono ?_;rintro e w1 ⟨rfl,bf⟩;have O1:=xh bf;clear bf;go_wp2_with fail;go_ret;exact aE O1.o
theorem set_big(w:World)(pb:Nat)(p:Int)(b:ByteArray)(hb:232<b.size):
  Calls prog 219 #[pp pb,.int .i64 p,.string b] w λe w'=>e=.returned (.int .i64 4)/\Below w.heap.size w w':=by
 have hbI:(232:Int)<(b.size:Int):=by omega
 have O1:=xh (Below.refl w.heap.size w);clear hb;unfold pp;go_enter func219,ntmps219;go_wp2_with fail;go_ret;exact aE O1.o
theorem TZ(h:ZP w y n q K)(p:Int)(b:ByteArray):
  Calls prog 219 #[pp y.pb,.int .i64 p,.string b] w λe w'=>e=.returned (.int .i64 (q.fK p b).2)/\ZP w' y n (q.fK p b).1 K/\ag y.fp w w':=by
 obtain⟨c,A,z⟩:=h;unfold QS.fK
 by_cases hb:232<b.size
 .rw[if_pos hb];exact(set_big w y.pb p b hb).mono λe w' ⟨r,o⟩=>⟨r,⟨c,A.below o,z⟩,.aj o⟩
 .rw[if_neg hb]
  cases hh:q.iA p with
  |none=>exact(set_out A p b (by omega) (by rw[Ff,hh])).mono λe w' ⟨r,o⟩=>⟨r,⟨c,A.below o,z⟩,.aj o⟩
  |some kf=>exact(set_in A p b (by omega) (k:=kf.1) (f:=kf.2) (by rw[Ff,hh])).mono λe w' ⟨r,A',o⟩=>⟨r,⟨c,A',z⟩,o⟩
theorem Hh(h:ZP w y n q K)(hb:Fb q.l K)(hK:K<=1000000000000)(p:Int):
  Calls prog 214 #[pp y.pb,.int .i64 p] w λe w'=>e=.returned (.int .i64 (q.iI p).2)/\ZP w' y n (q.iI p).1 K/\ag y.fp w w':=by
 obtain⟨c,A,z⟩:=h;have hl:=let_any A p (λf hf=>by have:=hb f hf;omega);rw[let_ps]at hl;refine hl.mono λe w' ⟨r,A',o⟩=>⟨r,⟨c,A',?_⟩,o⟩;have:(q.iI p).1.a=q.a:=by
  unfold QS.iI
  cases q.iA p with
  |none=>rfl
  |some kf=>rfl
 rw[this];exact z
variable{q:QS}{k K n g g3 g4 g5:Nat}{w:World}{y:Y}
theorem Qg(b:ByteArray)(q:Nat)(w:World)(s0:ByteArray)(B:aJ w q 9 #[.string s0]):
  Calls prog 168 #[.string b,.pointer (some ⟨q,0,none⟩)] w λe w'=>e=.returned (.int .i64 0)/\aJ w' q 9 #[.string b]/\ag [q] w w':=by
 have q0:=B.ab (i:=0) rfl;have q1:=B.frozen 0 (by simp);have B1:=xh (show aJ (w.setCell ⟨q,0,none⟩ (.string b)) q 9 #[.string b]from B.bE 0 (.string b));have O1:=xh ((ag.refl [q] w).setCell (p:=⟨q,0,none⟩) (by simp) (.string b));clear B;go_enter func168,ntmps168;go_wp2_with fail;go_ret;exact aE ⟨B1.o,O1.o⟩
theorem vP(h:Fb q.l K)(hk:k<q.l.length):Fb (q.bT k).1.l K/\(q.bT k).1.l.length=q.l.length:=by
 have hm:=h _ (ay (km hk));unfold QS.bT
 split
 .split
  .exact⟨h.set _ hm,bW⟩
  .exact⟨h,rfl⟩
 .exact⟨h,rfl⟩
def Full(a:St):Prop:= ∀l,(a.aP l).1.length<=232
theorem Ua{l:List UInt8}(h:l.length<=232):(⟨l.toArray⟩:ByteArray).size<=1000:=by
 show l.toArray.size<=1000;simp;omega
theorem Ub(h:Fb q.l K)(hl:q.hand<q.l.length)(hf:Full q.a)(p:Int):Fb (q.bh p).1.l (K+1)/\(q.bh p).1.l.length=q.l.length:=by
 unfold QS.bh
 rcases gM q.l p with e|⟨k,f,e,hk,_,_⟩
 .rw[e,if_neg (by omega)]
  split
  .exact⟨h.more (by omega),rfl⟩
  .obtain⟨v1,v2,v3⟩:=sK q hl h;have va:=jA q
   split
   .exact⟨v1.more (by omega),va.2⟩
   .rcases v3 with v3|⟨k,v3,hk⟩
    .omega
    .rw[v3,show((k:Nat):Int).toNat=k by omega];obtain⟨b1,b2⟩:=vP (k:=k) v1 (by omega)
     split
     .exact⟨b1.more (by omega),by rw[b2,va.2]⟩
     .exact⟨(b1.more (by omega)).set _ ⟨by show(0:Int)<=1;omega,by show(1:Int)<=_;omega,Ua (hf p)⟩,by show(List.set _ _ _).length=_;rw[bW,b2,va.2]⟩
 .rw[e,if_pos (by omega),show((k:Nat):Int).toNat=k by omega,nt hk];have hm:=h _ (ay hk);exact⟨(h.more (by omega)).set _ ⟨by show 0<=f.held+1;omega,by show f.held+1<=_;omega,hm.2.2⟩,bW⟩
theorem CI{p:Int}{f:Fr}(h:q.iA p=some (k,f)):q.l[k]?=some f/\f.held≠0/\findF q.l p=k:=by
 unfold QS.iA at h
 rcases gM q.l p with e|⟨j,g,e,hg,_,_⟩
 .rw[e,if_pos (by omega)]at h;cases h
 .rw[e,if_neg (by omega),show((j:Nat):Int).toNat=j by omega,hg]at h;dsimp only at h
  split at h
  .cases h
  .rename_i ff;obtain⟨rfl,rfl⟩:j=k/\g=f:=by simpa using h
   exact⟨hg,ff,e⟩
theorem let_l(h:Fb q.l K)(p:Int):Fb (q.iI p).1.l K/\(q.iI p).1.l.length=q.l.length/\(q.iI p).1.a=q.a/\(q.iI p).1.hand=q.hand:=by
 unfold QS.iI
 cases hh:q.iA p with
 |none=>exact⟨h,rfl,rfl,rfl⟩
 |some kf=>
  obtain⟨k,f⟩:=kf;obtain⟨h1,h2,_⟩:=CI hh;have hm:=h _ (ay h1);exact⟨h.set k ⟨by show 0<=f.held-1;omega,by show f.held-1<=_;omega,hm.2.2⟩,bW,rfl,rfl⟩
theorem set_l(h:Fb q.l K)(p:Int)(b:ByteArray):Fb (q.fK p b).1.l K/\(q.fK p b).1.l.length=q.l.length/\(q.fK p b).1.a=q.a/\(q.fK p b).1.hand=q.hand:=by
 unfold QS.fK
 split
 .exact⟨h,rfl,rfl,rfl⟩
 .rename_i hb
  cases hh:q.iA p with
  |none=>exact⟨h,rfl,rfl,rfl⟩
  |some kf=>
   obtain⟨k,f⟩:=kf;obtain⟨h1,h2,_⟩:=CI hh;have hm:=h _ (ay h1);exact⟨h.set k ⟨hm.1,hm.2.1,by show(rR b).size<=_;rw[zE (by omega)];omega⟩,bW,rfl,rfl⟩
theorem Lu(h:ZP w y n q K)(hb:Fb q.l K)(hK:K<=1000000000000)(p:Int)(he:(q.bh p).2.2≠0):
  Calls prog 167 #[pp y.pb,.int .i64 p,.func (Fn.func 168) #[] #[.pointer (some ⟨g,0,none⟩)]] w λe w'=>e=.returned (.int .i64 (q.bh p).2.2)/\ZP w' y n (q.bh p).1 (K+1)/\ag y.fp w w':=by
 have KH:=xh (q8 h hb hK p);have hq:((q.bh p).2.2 != 0)=true:=by rw[bne_iff_ne];exact he
 have kt:((q.bh p).2.2==0)=false:=by rw[beq_eq_false_iff_ne];exact he
 generalize q.bh p=R at *;clear h hb;unfold pp at *;go_enter func167,ntmps167;go_wp2_with fail;refine KH.o.mono ?_;rintro e w1 ⟨rfl,A1,o1⟩;have A1:=xh A1;have o1:=xh o1;go_wp2_with fail;go_ret;exact aE ⟨A1.o,o1.o⟩
theorem Lv(h:ZP w y n q K)(hb:Fb q.l K)(hK:K<=1000000000000)(p:Int)(he:(q.bh p).2.2≠0):
  Calls prog 167 #[pp y.pb,.int .i64 p,.func (Fn.func 218) #[] #[.pointer (some ⟨g3,0,none⟩),.pointer (some ⟨g4,0,none⟩),.pointer (some ⟨g5,0,none⟩)]] w λe w'=>e=.returned (.int .i64 (q.bh p).2.2)/\ZP w' y n (q.bh p).1 (K+1)/\ag y.fp w w':=by
 have KH:=xh (q8 h hb hK p);have hq:((q.bh p).2.2 != 0)=true:=by rw[bne_iff_ne];exact he
 have kt:((q.bh p).2.2==0)=false:=by rw[beq_eq_false_iff_ne];exact he
 generalize q.bh p=R at *;clear h hb;unfold pp at *;go_enter func167,ntmps167;go_wp2_with fail;refine KH.o.mono ?_;rintro e w1 ⟨rfl,A1,o1⟩;have A1:=xh A1;have o1:=xh o1;go_wp2_with fail;go_ret;exact aE ⟨A1.o,o1.o⟩
theorem Hi(h:ZP w y n q K)(hb:Fb q.l K)(hK:K<=999999999999)(hl:q.hand<q.l.length)(Uc:Full q.a)(p:Int)(he:(q.bh p).2.2=0)(s0:ByteArray)(B:aJ w g 9 #[.string s0])(hg:g∉y.fp):
  Calls prog 167 #[pp y.pb,.int .i64 p,.func (Fn.func 168) #[] #[.pointer (some ⟨g,0,none⟩)]] w λe w'=>e=.returned (.int .i64 0)/\ZP w' y n ((q.bh p).1.iI p).1 (K+1)/\ag (g::y.fp) w w'/\aJ w' g 9 #[.string (q.bh p).2.1]:=by
 have KH:=xh (q8 h hb (by omega) p);rw[he]at KH;have ue:=(Ub hb hl Uc p).1;generalize q.bh p=R at *;have KL:=xh (λw' (A:ZP w' y n R.1 (K+1))=>Hh A ue (by omega) p);have HQ:=xh hg;have HB:=xh B;have HD:=xh (λ(w1 w2:World) (A:ZP w1 y n R.1 (K+1)) (o:ag [g] w1 w2)=>(show ZP w2 y n R.1 (K+1)from by
  obtain⟨c,A,z⟩:=A;exact⟨c,A.only o (λx hx hm=>hg (by rw[aQ.1 hm]at hx;exact hx)),z⟩))
 clear h hb B ue he hg;unfold pp at *;go_enter func167,ntmps167;go_wp2_with fail;refine KH.o.mono ?_;rintro e w1 ⟨rfl,A1,o1⟩;have B1:=HB.o.only o1 HQ.o;have KG:=xh (Qg R.2.1 g w1 s0 B1);have A1:=xh A1;have o1:=xh o1;clear B1;go_wp2_with fail;refine KG.o.mono ?_;rintro e w2 ⟨rfl,B2,o2⟩;have A2:=xh (HD.o _ _ A1.o o2);have B2:=xh B2
 have o2:=xh ((o1.o.mono (λx hx _=>ax g hx)).trans (o2.mono (λx hx _=>by rw[aQ.1 hx];exact fY ..)));go_wp2_with fail;refine(KL.o _ A2.o).mono ?_;rintro e w3 ⟨rfl,A3,o3⟩;have A3:=xh A3;have B3:=xh (B2.o.only o3 HQ.o);have o3:=xh (o2.o.trans (o3.mono (λx hx _=>ax g hx)));go_wp2_with fail;go_ret;exact aE ⟨A3.o,o3.o,B3.o⟩
theorem uu(h:ZP w y n q K)(p:Int)(b u:ByteArray)(B3:aJ w g3 34 #[pp y.pb])(B4:aJ w g4 3 #[.int .i64 p])(B5:aJ w g5 9 #[.string b]):
  Calls prog 218 #[.string u,.pointer (some ⟨g3,0,none⟩),.pointer (some ⟨g4,0,none⟩),.pointer (some ⟨g5,0,none⟩)] w λe w'=>e=.returned (.int .i64 (q.fK p b).2)/\ZP w' y n (q.fK p b).1 K/\ag y.fp w w':=by
 have KS:=xh (TZ h p b);have c3:=B3.ab (i:=0) rfl;have c4:=B4.ab (i:=0) rfl;have c5:=B5.ab (i:=0) rfl;generalize q.fK p b=R at *;clear h B3 B4 B5;unfold pp at *;go_enter func218,ntmps218;go_wp2_with fail;refine KS.o.mono ?_;rintro e w1 ⟨rfl,A1,o1⟩;have A1:=xh A1;have o1:=xh o1;go_wp2_with fail;go_ret;exact aE ⟨A1.o,o1.o⟩
theorem Hj(h:ZP w y n q K)(hb:Fb q.l K)(hK:K<=999999999999)(hl:q.hand<q.l.length)(Uc:Full q.a)(p:Int)(he:(q.bh p).2.2=0)(b:ByteArray)(B3:aJ w g3 34 #[pp y.pb])(B4:aJ w g4 3 #[.int .i64 p])(B5:aJ w g5 9 #[.string b])(h3:g3∉y.fp)(h4:g4∉y.fp)(h5:g5∉y.fp):
  Calls prog 167 #[pp y.pb,.int .i64 p,.func (Fn.func 218) #[] #[.pointer (some ⟨g3,0,none⟩),.pointer (some ⟨g4,0,none⟩),.pointer (some ⟨g5,0,none⟩)]] w λe w'=>e=.returned (.int .i64 ((q.bh p).1.fK p b).2)/\ZP w' y n (((q.bh p).1.fK p b).1.iI p).1 (K+1)/\ag y.fp w w':=by
 have KH:=xh (q8 h hb (by omega) p);rw[he]at KH;have ue:=(Ub hb hl Uc p).1;have hbc:=(set_l ue p b).1;have KC:=xh (λ(w1:World) (A:ZP w1 y n (q.bh p).1 (K+1)) (u:ByteArray) (o:ag y.fp w w1)=>uu A p b u (B3.only o h3) (B4.only o h4) (B5.only o h5));generalize q.bh p=R at *;generalize R.1.fK p b=R2 at *;have KL:=xh (λw' (A:ZP w' y n R2.1 (K+1))=>Hh A hbc (by omega) p);clear h hb B3 B4 B5 ue hbc he h3 h4 h5;unfold pp at *
 go_enter func167,ntmps167;go_wp2_with fail;refine KH.o.mono ?_;rintro e w1 ⟨rfl,A1,o1⟩;have KG:=xh (KC.o w1 A1 R.2.1 o1);have o1:=xh o1;clear A1;go_wp2_with fail;refine KG.o.mono ?_;rintro e w2 ⟨rfl,A2,o2⟩;have A2:=xh A2;have o2:=xh (o1.o.trans o2);go_wp2_with fail;refine(KL.o _ A2.o).mono ?_;rintro e w3 ⟨rfl,A3,o3⟩;have A3:=xh A3;have o3:=xh (o2.o.trans o3);go_wp2_with fail;go_ret;exact aE ⟨A3.o,o3.o⟩
theorem Qh(h:ZP w y n q K)(hb:Fb q.l K)(hK:K<=999999999999)(Uc:Full q.a)(p:Int)(he:(q.bh p).2.2=0):
  Calls prog 121 #[pp y.pb,.int .i64 p] w λe w'=>e=.returned (.tuple #[.string (q.bh p).2.1,.int .i64 0])/\ZP w' y n ((q.bh p).1.iI p).1 (K+1)/\ag y.fp w w':=by
 have O0:=xh (ae (Below.refl w.heap.size w) (.cells #[.string ⟨#[]⟩] 9));have B0:=xh (aJ.new w 9 #[.string ⟨#[]⟩]);have NQ:=xh (show w.heap.size∉y.fp from λhm=>by
  obtain⟨c,A,z⟩:=h;have:=A.lt _ hm;omega)
 have KW:=xh (Hi (h.below O0.o) hb hK (by obtain⟨c,A,z⟩:=h;exact A.lh) Uc p he _ B0.o NQ.o);generalize (q.bh p).2.1=r at *;generalize ((q.bh p).1.iI p).1=S2 at *;clear h hb he Uc;unfold pp at *;go_enter func121,ntmps121;go_wp2_with fail;refine KW.o.mono ?_;rintro e w1 ⟨rfl,A1,o1,B1⟩;have A1:=xh A1;have o1:=xh ((ag.aj (S:=w.heap.size::y.fp) O0.o).trans o1);have q0:=B1.ab (i:=0) rfl;clear B1;go_wp2_with fail;go_ret2
 exact aE ⟨A1.o,o1.o.mono (λg hg dH=>by simp at hg;rcases hg with rfl|hg;(· omega);exact hg)⟩
theorem Ud(h:ZP w y n q K)(hb:Fb q.l K)(hK:K<=999999999999)(p:Int)(he:(q.bh p).2.2≠0):
  Calls prog 121 #[pp y.pb,.int .i64 p] w λe w'=>e=.returned (.tuple #[.string ⟨#[]⟩,.int .i64 (q.bh p).2.2])/\ZP w' y n (q.bh p).1 (K+1)/\ag y.fp w w':=by
 have O0:=xh (ae (Below.refl w.heap.size w) (.cells #[.string ⟨#[]⟩] 9));have B0:=xh (aJ.new w 9 #[.string ⟨#[]⟩]);have NQ:=xh (show w.heap.size∉y.fp from λhm=>by
  obtain⟨c,A,z⟩:=h;have:=A.lt _ hm;omega)
 have KW:=xh (Lu (g:=w.heap.size) (h.below O0.o) hb (by omega) p he);generalize (q.bh p)=R at *;clear h hb he;unfold pp at *;go_enter func121,ntmps121;go_wp2_with fail;refine KW.o.mono ?_;rintro e w1 ⟨rfl,A1,o1⟩;have B1:=B0.o.only o1 NQ.o;have A1:=xh A1;have o1:=xh ((ag.aj (S:=y.fp) O0.o).trans o1);have q0:=B1.ab (i:=0) rfl;clear B1;go_wp2_with fail;go_ret2;exact aE ⟨A1.o,o1.o⟩
theorem Qi(h:ZP w y n q K)(hb:Fb q.l K)(hK:K<=999999999999)(Uc:Full q.a)(p:Int)(b:ByteArray)(hs:b.size<=232)(he:(q.bh p).2.2=0):
  Calls prog 176 #[pp y.pb,.int .i64 p,.string b] w λe w'=>e=.returned (.int .i64 ((q.bh p).1.fK p b).2)/\ZP w' y n (((q.bh p).1.fK p b).1.iI p).1 (K+1)/\ag y.fp w w':=by
 obtain⟨g3,hg3⟩:∃g,w.heap.size=g:=⟨_,rfl⟩;have b3:=aJ.new w 34 #[pp y.pb];have o3:=ae (Below.refl w.heap.size w) (.cells #[pp y.pb] 34);have e3:(w.alloc (.cells #[pp y.pb] 34)).heap.size=g3+1:=by rw[<-hg3];simp
 have b4:=aJ.new (w.alloc (.cells #[pp y.pb] 34)) 3 #[.int .i64 p];have o4:=ae o3 (.cells #[.int .i64 p] 3);have k4:=ae (Below.refl (w.alloc (.cells #[pp y.pb] 34)).heap.size _) (.cells #[.int .i64 p] 3);have e4:((w.alloc (.cells #[pp y.pb] 34)).alloc (.cells #[.int .i64 p] 3)).heap.size=g3+2:=by rw[<-hg3];simp
 have b5:=aJ.new ((w.alloc (.cells #[pp y.pb] 34)).alloc (.cells #[.int .i64 p] 3)) 9 #[.string b];have o5:=ae o4 (.cells #[.string b] 9);have k5:=ae (Below.refl ((w.alloc (.cells #[pp y.pb] 34)).alloc (.cells #[.int .i64 p] 3)).heap.size _) (.cells #[.string b] 9);have B3:=aJ.below (aJ.below b3 k4 b3.lt) k5 (aJ.below b3 k4 b3.lt).lt;have B4:=aJ.below b4 k5 b4.lt;rw[e3]at B4;rw[e4]at b5;rw[hg3]at B3;have OZ:=xh o5
 have NQ:=xh (show ∀g,w.heap.size<=g->g∉y.fp from λg hg hm=>by
  obtain⟨c,A,z⟩:=h;have:=A.lt _ hm;omega)
 have KW:=xh (Hj (h.below OZ.o) hb hK (by obtain⟨c,A,z⟩:=h;exact A.lh) Uc p he b B3 B4 b5 (NQ.o _ (by omega)) (NQ.o _ (by omega)) (NQ.o _ (by omega)));have cl:=B3.ab (i:=0) rfl;have c4:=B4.ab (i:=0) rfl;have c5:=b5.ab (i:=0) rfl;have hsI:¬(232:Int)<(b.size:Int):=by omega
 generalize ((q.bh p).1.fK p b).2=RR at *;generalize (((q.bh p).1.fK p b).1.iI p).1=SS at *;clear h hb he Uc hs b3 b4 b5 B3 B4 o3 o4 o5 e3 e4 k4 k5;unfold pp at *;go_enter func176,ntmps176;go_wp2_with fail;refine KW.o.mono ?_;rintro e w1 ⟨rfl,A1,o1⟩;have A1:=xh A1;have o1:=xh ((ag.aj (S:=y.fp) OZ.o).trans o1);go_wp2_with fail;go_ret;exact aE ⟨A1.o,o1.o⟩
theorem Ue(h:ZP w y n q K)(hb:Fb q.l K)(hK:K<=999999999999)(Uc:Full q.a)(p:Int)(b:ByteArray)(hs:b.size<=232)(he:(q.bh p).2.2≠0):
  Calls prog 176 #[pp y.pb,.int .i64 p,.string b] w λe w'=>e=.returned (.int .i64 (q.bh p).2.2)/\ZP w' y n (q.bh p).1 (K+1)/\ag y.fp w w':=by
 obtain⟨g3,hg3⟩:∃g,w.heap.size=g:=⟨_,rfl⟩;have b3:=aJ.new w 34 #[pp y.pb];have o3:=ae (Below.refl w.heap.size w) (.cells #[pp y.pb] 34);have e3:(w.alloc (.cells #[pp y.pb] 34)).heap.size=g3+1:=by rw[<-hg3];simp
 have b4:=aJ.new (w.alloc (.cells #[pp y.pb] 34)) 3 #[.int .i64 p];have o4:=ae o3 (.cells #[.int .i64 p] 3);have k4:=ae (Below.refl (w.alloc (.cells #[pp y.pb] 34)).heap.size _) (.cells #[.int .i64 p] 3);have e4:((w.alloc (.cells #[pp y.pb] 34)).alloc (.cells #[.int .i64 p] 3)).heap.size=g3+2:=by rw[<-hg3];simp
 have b5:=aJ.new ((w.alloc (.cells #[pp y.pb] 34)).alloc (.cells #[.int .i64 p] 3)) 9 #[.string b];have o5:=ae o4 (.cells #[.string b] 9);have k5:=ae (Below.refl ((w.alloc (.cells #[pp y.pb] 34)).alloc (.cells #[.int .i64 p] 3)).heap.size _) (.cells #[.string b] 9);have B3:=aJ.below (aJ.below b3 k4 b3.lt) k5 (aJ.below b3 k4 b3.lt).lt;have B4:=aJ.below b4 k5 b4.lt;rw[e3]at B4;rw[e4]at b5;rw[hg3]at B3;have OZ:=xh o5
 have NQ:=xh (show ∀g,w.heap.size<=g->g∉y.fp from λg hg hm=>by
  obtain⟨c,A,z⟩:=h;have:=A.lt _ hm;omega)
 have KW:=xh (Lv (g3:=g3) (g4:=g3+1) (g5:=g3+2) (h.below OZ.o) hb (by omega) p he);have cl:=B3.ab (i:=0) rfl;have c4:=B4.ab (i:=0) rfl;have c5:=b5.ab (i:=0) rfl;have hsI:¬(232:Int)<(b.size:Int):=by omega
 generalize (q.bh p).2.2=RR at *;generalize (q.bh p).1=SS at *;clear h hb he Uc hs b3 b4 b5 B3 B4 o3 o4 o5 e3 e4 k4 k5;unfold pp at *;go_enter func176,ntmps176;go_wp2_with fail;refine KW.o.mono ?_;rintro e w1 ⟨rfl,A1,o1⟩;have A1:=xh A1;have o1:=xh ((ag.aj (S:=y.fp) OZ.o).trans o1);go_wp2_with fail;go_ret;exact aE ⟨A1.o,o1.o⟩
theorem Uf(p:Int)(b:ByteArray)(hs:232<b.size):
  Calls prog 176 #[pp y.pb,.int .i64 p,.string b] w λe w'=>e=.returned (.int .i64 4)/\Below w.heap.size w w':=by
 have OZ:=xh (ae (ae (ae (Below.refl w.heap.size w) (.cells #[pp y.pb] 34)) (.cells #[.int .i64 p] 3)) (.cells #[.string b] 9));have hsI:(232:Int)<(b.size:Int):=by omega
 clear hs;unfold pp at *;go_enter func176,ntmps176;go_wp2_with fail;go_ret;exact aE OZ.o
end Sh
namespace Sh
open Go.RowKit Pk Dk Pg
section
variable{c:C}{n:Nat}{a:St}{K:Nat}
theorem Zc.full(z:Zc c n a K):Full a:=by
 intro l
 by_cases h:(a.aP l).2=0
 .have hr:=z.read l;rw[vF z.g]at hr;rw[<-hr]at h ⊢;exact Nat.le_of_eq (GW z.g h)
 .unfold St.aP at h ⊢
  cases ha:a.at l with
  |none=>exact aY _
  |some u=>rw[ha]at h;exact absurd rfl h
theorem Zc.tl(z:Zc c n a K)(h:a.now.length<=512):c.table.length<=512:=by
 obtain⟨k,e⟩:=z.e;rw[e]at h;have h2:((c.bR n).pad k).now.length=c.table.length+k:=by
  unfold St.pad C.bR;simp
 omega
end
structure Hq(q:QS)(n K:Nat):Prop where
 z:∃c,Zc c n q.a K
 f:Fb q.l K
 l1:1<=q.l.length
 l2:q.l.length<=32
 lh:q.hand<q.l.length
 nl:q.a.now.length<=512
section
variable{q:QS}{n K:Nat}
theorem Hq.full(h:Hq q n K):Full q.a:=by
 obtain⟨c,z⟩:=h.z;exact z.full
theorem Hq.more(h:Hq q n K){K':Nat}(hk:K<=K'):Hq q n K':=by
 obtain⟨c,z⟩:=h.z;exact⟨⟨c,z.more hk⟩,h.f.more hk,h.l1,h.l2,h.lh,h.nl⟩
theorem Hq.Fg(h:Hq q n K){q':QS}{K':Nat}(ha:q'.a=q.a)(hk:K<=K')(hf:Fb q'.l K')(hl:q'.l.length=q.l.length)(hh:q'.hand<q.l.length):Hq q' n K':=by
 obtain⟨c,z⟩:=h.z;exact⟨⟨c,by rw[ha];exact z.more hk⟩,hf,by rw[hl];exact h.l1,by rw[hl];exact h.l2,by rw[hl];exact hh,by rw[ha];exact h.nl⟩
theorem CJ(a:St)(l:Int)(p:List UInt8):(a.aD l p).1.now.length=a.now.length:=by
 unfold St.aD
 split
 .rfl
 .split
  .rfl
  .split
   .rfl
   .show(a.now.set _ _).length=_;rw[bW]
theorem Hq.Ug(h:Hq q n K):Hq q.aN.1 n K/\(q.aN.2= -1\/∃k:Nat,q.aN.2=k/\k<q.l.length):=by
 obtain⟨v1,v2,v3⟩:=sK q h.lh h.f;have va:=jA q;exact⟨h.Fg va.1 (ak _) v1 va.2 (by rw[<-va.2];exact v2),v3⟩
theorem Qj(q:QS)(k:Nat):(q.bT k).1.hand=q.hand:=by
 unfold QS.bT
 split
 .split<;>rfl
 .rfl
theorem Uh(q:QS)(k:Nat):(q.bT k).1.a.now.length=q.a.now.length:=by
 unfold QS.bT
 split
 .split
  .exact CJ _ _ _
  .exact CJ _ _ _
 .rfl
theorem Hq.back(h:Hq q n K)(k:Nat)(hk:k<q.l.length):Hq (q.bT k).1 n (K+1):=by
 obtain⟨b1,b2⟩:=vP h.f hk;obtain⟨c,z⟩:=h.z;refine⟨?_,b1.more (by omega),by rw[b2];exact h.l1,by rw[b2];exact h.l2,by rw[b2,Qj];exact h.lh,by rw[Uh];exact h.nl⟩;unfold QS.bT
 split
 .split
  .exact⟨_,(z.write _ _).1⟩
  .exact⟨_,(z.write _ _).1⟩
 .exact⟨c,z.more (by omega)⟩
theorem Hq.put(h:Hq q n K)(k:Nat){f:Fr}(hf:0<=f.held/\f.held<=K/\f.fS.size<=1000):Hq {q with l:=q.l.set k f} n K:=
 h.Fg rfl (ak _) (h.f.set k hf) bW h.lh
theorem Hq.hold(h:Hq q n K)(p:Int):Hq (q.bh p).1 n (K+1):=by
 unfold QS.bh
 rcases gM q.l p with e|⟨k,f,e,hk,_,_⟩
 .rw[e,if_neg (by omega)]
  split
  .exact h.more (by omega)
  .obtain⟨v1,v3⟩:=h.Ug;have va:=jA q
   split
   .exact v1.more (by omega)
   .rcases v3 with v3|⟨k,v3,hk⟩
    .omega
    .rw[v3,show((k:Nat):Int).toNat=k by omega];have hb:=v1.back k (by omega)
     split
     .exact hb
     .exact hb.put k ⟨by show(0:Int)<=1;omega,by show(1:Int)<=_;omega,Ua (h.full p)⟩
 .rw[e,if_pos (by omega),show((k:Nat):Int).toNat=k by omega,nt hk];have hm:=h.f _ (ay hk);exact(h.more (by omega)).put k ⟨by show 0<=f.held+1;omega,by show f.held+1<=_;omega,hm.2.2⟩
theorem Hq.let_(h:Hq q n K)(p:Int):Hq (q.iI p).1 n K:=by
 obtain⟨a,b,c,d⟩:=let_l h.f p;exact h.Fg c (ak _) a b (by rw[d];exact h.lh)
theorem Hq.set(h:Hq q n K)(p:Int)(b:ByteArray):Hq (q.fK p b).1 n K:=by
 obtain⟨a,e,c,d⟩:=set_l h.f p b;exact h.Fg c (ak _) a e (by rw[d];exact h.lh)
theorem Hq.get(h:Hq q n K)(p:Int):Hq (q.dK p).1 n (K+1):=by
 unfold QS.dK
 split
 .exact h.hold p
 .exact(h.hold p).let_ p
theorem Hq.put_(h:Hq q n K)(p:Int)(b:ByteArray):Hq (q.dM p b).1 n (K+1):=by
 unfold QS.dM
 split
 .exact h.more (by omega)
 .split
  .exact h.hold p
  .exact((h.hold p).set p b).let_ p
theorem Ui(a:St)(l:Int):(a.aV l).1.now.length=a.now.length:=by
 unfold St.aV
 split
 .show(a.now.set _ _).length=_;rw[bW]
 .rfl
theorem Hq.drop(h:Hq q n K)(p:Int):Hq (q.aV p).1 n K:=by
 obtain⟨c,z⟩:=h.z;have hd:Hq {q with a:=(q.a.aV p).1} n K:=⟨⟨_,(z.drop p).1⟩,h.f,h.l1,h.l2,h.lh,by show(q.a.aV p).1.now.length<=512;rw[Ui];exact h.nl⟩;unfold QS.aV
 split
 .exact h
 .split
  .exact hd
  .split
   .exact hd.put _ Fb.nil
   .exact hd
theorem Hq.xr(h:Hq q n K)(i:Int):Hq (q.eU i).1 n (K+1):=by
 unfold QS.eU
 split
 .exact h.more (by omega)
 .split
  .exact h.more (by omega)
  .split
   .exact h.more (by omega)
   .split
    .exact h.back _ (by omega)
    .exact(h.back _ (by omega)).put _ Fb.nil
theorem uv(q:QS)(i:Nat):q.bn (i+1)=if(q.bn i).2≠0 then q.bn i else(q.bn i).1.bT i:=rfl
theorem Hq.zF(h:Hq q n K):∀i,i<=q.l.length->Hq (q.bn i).1 n (K+i)/\(q.bn i).1.l.length=q.l.length
 |0,_=>⟨h,rfl⟩
 |i+1,hi=>by
  obtain⟨h1,h2⟩:=h.zF i (by omega);rw[uv]
  split
  .exact⟨h1.more (by omega),h2⟩
  .exact⟨h1.back i (by omega),by rw[(vP h1.f (by omega)).2,h2]⟩
theorem old_len(a:St):(iT a.bX).length=a.bX.length:=by unfold iT;rw[fo]
theorem Lw(a:St)(h:a.now.length<=512):a.aK.1.now.length<=512:=by
 unfold St.aK
 split
 .exact h
 .show(iT a.eg).length<=512;unfold iT;rw[fo];have:=zu a;omega
theorem Hq.ko(h:Hq q n K)(hK:K<=999999999000):Hq q.aK.1 n (K+40):=by
 unfold QS.aK;obtain⟨b1,b2⟩:=h.zF q.l.length (ak _);have l2:=h.l2
 split
 .exact h.more (by omega)
 .split
  .exact b1.more (by omega)
  .obtain⟨c,z⟩:=b1.z;have zc:=(z.ko (z.tl b1.nl) (by omega)).1;exact⟨⟨_,zc.more (by omega)⟩,b1.f.more (by omega),b1.l1,b1.l2,b1.lh,Lw _ b1.nl⟩
theorem Hq.abort(h:Hq q n K):Hq q.cq n K:=by
 obtain⟨c,z⟩:=h.z;refine⟨⟨_,z.abort⟩,λf hf=>?_,by show 1<=(List.replicate _ _).length;rw[ez];exact h.l1,by show(List.replicate _ _).length<=32;rw[ez];exact h.l2,by show q.hand<(List.replicate _ _).length;rw[ez];exact h.lh,?_⟩
 .rw[om hf];exact Fb.nil
 .show(iT q.a.bX).length<=512;rw[old_len];obtain⟨k,e⟩:=z.e;have:=z.bX;rw[e];show(c.bX.map _).length<=512;rw[fo];exact this
theorem new_len(a:St)(p:List UInt8)(h:a.now.length<=512):(a.bV p).1.now.length<=512:=by
 unfold St.bV
 split
 .exact h
 .split
  .exact h
  .rename_i hs;show(oP a.now a.slot _).length<=512;unfold oP
   split
   .rw[aU];simp;omega
   .rw[bW];exact h
theorem Hq.new(h:Hq q n K)(p:List UInt8):Hq (q.bV p).1 n (K+1):=by
 obtain⟨c,z⟩:=h.z;exact⟨⟨_,(z.new p).1⟩,h.f.more (by omega),h.l1,h.l2,h.lh,new_len _ _ h.nl⟩
end
theorem kp{α β:Type}(l:List α)(g:α->β)(k:Nat){a b:α}(h:l[k]?=some b)(e:g a=g b):(l.set k a).map g=l.map g:=by
 rw[qJ];apply mu;intro i;rw[iL];have hk:=(aS.1 h).1
 split
 .rename_i hi;subst hi;rw[if_pos (by simpa using hk),jr,h,e];rfl
 .rfl
theorem Hk{a:St}{p:Int}(h:(a.aP p).2=0):0<=p:=by
 by_cases hp:0<=p
 .exact hp
 .exfalso;unfold St.aP St.at at h;rw[if_neg hp]at h;exact absurd h (by decide)
variable{a:St}{l l':List Fr}{k:Nat}{f:Fr}{j:Int}
theorem nN{l:Int}(h:(a.at l).isSome=true):0<=l/\l.toNat<a.now.length:=by
 unfold St.at at h
 by_cases h0:0<=l
 .rw[if_pos h0]at h;refine⟨h0,?_⟩
  by_cases hl:l.toNat<a.now.length
  .exact hl
  .rw[gu (by omega)]at h
   cases h
 .rw[if_neg h0]at h;cases h
theorem uw{l:Int}:(a.aP l).2=0↔(a.at l).isSome=true:=by
 unfold St.aP
 cases h:a.at l with
 |none=>simp
 |some u=>simp
theorem mz{l:Int}{p:List UInt8}(h:(a.aD l p).2=0)(j:Int):(a.aD l p).1.aP j=if j=l then(eP p 232,0)else a.aP j:=by
 unfold St.aD at h ⊢
 by_cases h1:232<p.length
 .rw[if_pos h1]at h;exact absurd h (by show(4:Int)≠0;decide)
 rw[if_neg h1]at h ⊢
 by_cases h2:¬(a.at l).isSome=true
 .rw[if_pos h2]at h;exact absurd h (by show(3:Int)≠0;decide)
 rw[if_neg h2]at h ⊢
 by_cases h3:fO (a.at l)=false/\a.free=0
 .rw[if_pos h3]at h;exact absurd h (by show(11:Int)≠0;decide)
 rw[if_neg h3];obtain⟨l0,l1⟩:=nN (Classical.not_not.1 h2);have hat:St.at {a with now:=a.now.set l.toNat (some (true,eP p 232))} j=if j=l then some (true,eP p 232)else a.at j:=by
  unfold St.at
  by_cases hj:j=l
  .subst hj;rw[if_pos l0,if_pos rfl];show((a.now.set j.toNat _)[j.toNat]?).getD none=_;rw[dO l1];rfl
  .rw[if_neg hj]
   by_cases h0:0<=j
   .rw[if_pos h0,if_pos h0];show((a.now.set l.toNat _)[j.toNat]?).getD none=_;rw[gJ (by omega)]
   .rw[if_neg h0,if_neg h0]
 show St.aP {a with now:=a.now.set l.toNat (some (true,eP p 232))} j=_;unfold St.aP;rw[hat]
 by_cases hj:j=l
 .rw[if_pos hj,if_pos hj]
 .rw[if_neg hj,if_neg hj]
def QS.vw(q:QS)(j:Int):List UInt8×Int:=if 0<=findF q.l j then((jO q.l (findF q.l j).toNat).fS.data.toList,0)else q.a.aP j
structure Vi(q:QS):Prop where
 un:∀(i j:Nat) (f h:Fr),q.l[i]?=some f->q.l[j]?=some h->f.aq=h.aq->0<=f.aq->i=j
 cl:∀f∈q.l,0<=f.aq->f.cD=false->q.a.aP f.aq=(f.fS.data.toList,0)
 ex:∀f∈q.l,0<=f.aq->(q.a.aP f.aq).2=0
 em:∀f∈q.l,f.aq<0->f.cD=false
 fl:∀f∈q.l,0<=f.aq->f.fS.size=232
theorem Fh(hf:l[k]?=some f)(h0:0<=f.aq)(un:∀(j:Nat) (h:Fr),l[j]?=some h->h.aq=f.aq->j=k):findF l f.aq=k:=by
 unfold findF;rw[if_neg (by omega)];exact uf hf (by simp) (λj a hj hja=>by
  simp only[decide_eq_false_iff_not];intro e;have:=un j a hja e;omega)
theorem Uj(h:j<0\/∀f∈l,f.aq≠j):findF l j= -1:=by
 unfold findF
 by_cases h0:j<0
 .rw[if_pos h0]
 .rw[if_neg h0];exact za (λi a hi=>by
   simp only[decide_eq_false_iff_not];exact h.resolve_left h0 a (ay hi))
theorem eE{q:QS}(h:j<0\/∀f∈q.l,f.aq≠j):q.vw j=q.a.aP j:=by
 unfold QS.vw;rw[Uj h,if_neg (by omega)]
theorem Vi.jB{q:QS}(V:Vi q)(hf:q.l[k]?=some f)(h0:0<=f.aq):q.vw f.aq=(f.fS.data.toList,0):=by
 unfold QS.vw;rw[Fh hf h0 (λj h hj e=>V.un j k h f hj hf e (by omega)),if_pos (by omega),show((k:Nat):Int).toNat=k by omega,nt hf]
theorem gQ(q:QS)(j:Int):(j<0\/∀f∈q.l,f.aq≠j)\/∃(k:Nat) (f:Fr),q.l[k]?=some f/\f.aq=j/\0<=j:=by
 by_cases h0:j<0
 .exact .inl (.inl h0)
 by_cases h:∃f∈q.l,f.aq=j
 .obtain⟨f,hf,e⟩:=h;obtain⟨k,hk⟩:=Ec.1 hf;exact .inr ⟨k,f,hk,e,by omega⟩
 .exact .inl (.inr (λf hf e=>h ⟨f,hf,e⟩))
def pd(f:Fr):Int×ByteArray×Bool:=(f.aq,f.fS,f.cD)
theorem Fk(e:l'.map pd=l.map pd)(hf:l[k]?=some f):∃f',l'[k]?=some f'/\f'.aq=f.aq/\f'.fS=f.fS/\f'.cD=f.cD:=by
 have:(l'.map pd)[k]?=(l.map pd)[k]?:=by rw[e]
 rw[jr,jr,hf]at this
 cases h':l'[k]? with
 |none=>rw[h']at this;cases this
 |some f'=>
  rw[h']at this;have:pd f'=pd f:=by simpa using this
  exact⟨f',rfl,congrArg Prod.fst this,congrArg (λx=>x.2.1) this,congrArg (λx=>x.2.2) this⟩
theorem zG(e:l'.map pd=l.map pd)(hf:f∈l):∃f'∈l',f'.aq=f.aq/\f'.fS=f.fS/\f'.cD=f.cD:=by
 obtain⟨k,hk⟩:=Ec.1 hf;obtain⟨f',h1,h2⟩:=Fk e hk;exact⟨f',ay h1,h2⟩
theorem Vi.pd{q q':QS}(V:Vi q)(ea:q'.a=q.a)(e:q'.l.map Sh.pd=q.l.map Sh.pd):Vi q'/\∀j,q'.vw j=q.vw j:=by
 have V':Vi q':=by
  refine⟨λi j f h hf hh ep h0=>?_,λf hf h0 hd=>?_,λf hf h0=>?_,λf hf h0=>?_,λf hf h0=>?_⟩
  .obtain⟨f',a1,a2,_⟩:=Fk e.symm hf;obtain⟨h',b1,b2,_⟩:=Fk e.symm hh;exact V.un i j f' h' a1 b1 (by omega) (by omega)
  .obtain⟨f',a1,a2,a3,a4⟩:=zG e.symm hf;rw[ea,<-a2,<-a3];exact V.cl f' a1 (by omega) (by rw[a4];exact hd)
  .obtain⟨f',a1,a2,_⟩:=zG e.symm hf;rw[ea,<-a2];exact V.ex f' a1 (by omega)
  .obtain⟨f',a1,a2,_,a4⟩:=zG e.symm hf;rw[<-a4];exact V.em f' a1 (by omega)
  .obtain⟨f',a1,a2,a3,_⟩:=zG e.symm hf;rw[<-a3];exact V.fl f' a1 (by omega)
 refine⟨V',λj=>?_⟩
 rcases gQ q j with h|⟨k,f,hf,rfl,h0⟩
 .rw[eE h,eE (h.imp id (λh f hf=>by
   obtain⟨f',a1,a2,_⟩:=zG e.symm hf;rw[<-a2];exact h f' a1)),ea]
 .obtain⟨f',a1,a2,a3,_⟩:=Fk e hf;rw[V.jB hf h0,<-a2,V'.jB a1 (by omega),a3]
theorem mem_set{g:Fr}(h:f∈l.set k g):f=g\/∃i,i≠k/\l[i]?=some f:=by
 obtain⟨i,hi⟩:=Ec.1 h
 by_cases uY:i=k
 .subst uY;rw[iL]at hi
  split at hi
  .split at hi
   .injection hi with hi;exact .inl hi.symm
   .cases hi
  .rename_i h;exact absurd rfl h
 .rw[gJ (by omega)]at hi;exact .inr ⟨i,uY,hi⟩
theorem ux{b:ByteArray}(h:b.size=232):eP b.data.toList 232=b.data.toList:=by
 have hl:b.data.toList.length=b.size:=by simp
 unfold eP;rw[hl,h];simp
theorem Vi.wrote{q:QS}(V:Vi q)(hf:q.l[k]?=some f)(h0:0<=f.aq)(hw:(q.a.aD f.aq f.fS.data.toList).2=0):
  Vi {q with a:=(q.a.aD f.aq f.fS.data.toList).1,l:=q.l.set k {f with cD:=false}}/\∀j,QS.vw {q with a:=(q.a.aD f.aq f.fS.data.toList).1,l:=q.l.set k {f with cD:=false}} j=q.vw j:=by
 have hr:=mz hw;have hp:=ux (V.fl f (ay hf) h0);have hk:=(aS.1 hf).1;have ne:∀(i:Nat) (h:Fr),i≠k->q.l[i]?=some h->h.aq≠f.aq:=λi h hi hh e=>hi (V.un i k h f hh hf e (by omega));have V':Vi {q with a:=(q.a.aD f.aq f.fS.data.toList).1,l:=q.l.set k {f with cD:=false}}:=by
  refine⟨λi j g h hg hh ep RC=>?_,λg hg RC hd=>?_,λg hg RC=>?_,λg hg RC=>?_,λg hg RC=>?_⟩
  .have gt:∀(i:Nat) (g:Fr),(q.l.set k {f with cD:=false})[i]?=some g->∃g',q.l[i]?=some g'/\g'.aq=g.aq:=λi g hg=>by
    by_cases uY:i=k
    .subst uY;rw[dO hk]at hg;injection hg with hg
     exact⟨f,hf,by rw[<-hg]⟩
    .rw[gJ (by omega)]at hg;exact⟨g,hg,rfl⟩
   obtain⟨g',a1,a2⟩:=gt i g hg;obtain⟨h',b1,b2⟩:=gt j h hh;exact V.un i j g' h' a1 b1 (by omega) (by omega)
  .show(q.a.aD f.aq f.fS.data.toList).1.aP g.aq=_
   rcases mem_set hg with rfl|⟨i,hi,Uk⟩
   .rw[hr,if_pos rfl,hp]
   .rw[hr,if_neg (ne i g hi Uk)];exact V.cl g (ay Uk) RC hd
  .show((q.a.aD f.aq f.fS.data.toList).1.aP g.aq).2=0
   rcases mem_set hg with rfl|⟨i,hi,Uk⟩
   .rw[hr,if_pos rfl]
   .rw[hr,if_neg (ne i g hi Uk)];exact V.ex g (ay Uk) RC
  .rcases mem_set hg with rfl|⟨i,hi,Uk⟩
   .rfl
   .exact V.em g (ay Uk) RC
  .rcases mem_set hg with rfl|⟨i,hi,Uk⟩
   .exact V.fl f (ay hf) h0
   .exact V.fl g (ay Uk) RC
 refine⟨V',λj=>?_⟩
 rcases gQ q j with h|⟨i,g,hg,rfl,RC⟩
 .rw[eE h,eE (h.imp id (λh g hg=>by
   rcases mem_set hg with rfl|⟨i,hi,Uk⟩
   .exact h f (ay hf)
   .exact h g (ay Uk)))]
  show(q.a.aD f.aq f.fS.data.toList).1.aP j=_;rw[hr,if_neg];intro e
  rcases h with h|h
  .omega
  .exact h f (ay hf) e.symm
 .rw[V.jB hg RC]
  by_cases uY:i=k
  .subst uY;have:g=f:=by rw[hg]at hf;injection hf
   subst this;exact V'.jB (k:=i) (f:={g with cD:=false}) (by show(q.l.set i _)[i]?=_;rw[dO hk]) RC
  .exact V'.jB (k:=i) (f:=g) (by show(q.l.set k _)[i]?=_;rw[gJ (by omega)];exact hg) RC
theorem Vi.swap{q:QS}(V:Vi q)(hf:q.l[k]?=some f)(hd:f.cD=false)(g:Fr)(hg:g=Fr.nil\/(0<=g.aq/\g.cD=false/\(∀h∈q.l,h.aq≠g.aq)/\q.a.aP g.aq=(g.fS.data.toList,0)/\g.fS.size=232)):
  Vi {q with l:=q.l.set k g}/\∀j,QS.vw {q with l:=q.l.set k g} j=q.vw j:=by
 have hk:=(aS.1 hf).1;have hgp:g.aq<0\/0<=g.aq:=by omega
 have gn:g.aq<0->g=Fr.nil:=λh=>hg.resolve_right (λh'=>by omega);have gp:0<=g.aq->g.cD=false/\(∀h∈q.l,h.aq≠g.aq)/\q.a.aP g.aq=(g.fS.data.toList,0)/\g.fS.size=232:=λh=>by
  rcases hg with rfl|hg
  .exact absurd h (by decide)
  .exact hg.2
 have V':Vi {q with l:=q.l.set k g}:=by
  refine⟨λi j f1 h1 oS hh1 ep h0=>?_,λf1 oS h0 uX=>?_,λf1 oS h0=>?_,λf1 oS h0=>?_,λf1 oS h0=>?_⟩
  .have gt:∀(i:Nat) (x:Fr),(q.l.set k g)[i]?=some x->(i=k/\x=g)\/(i≠k/\q.l[i]?=some x):=λi x hx=>by
    by_cases uY:i=k
    .subst uY;rw[dO hk]at hx;injection hx with hx
     exact .inl ⟨rfl,hx.symm⟩
    .rw[gJ (by omega)]at hx;exact .inr ⟨uY,hx⟩
   rcases gt i f1 oS with⟨rfl,rfl⟩|⟨hi,oE⟩
   .rcases gt j h1 hh1 with⟨rfl,rfl⟩|⟨hj,hj'⟩
    .rfl
    .exact absurd ep.symm ((gp h0).2.1 h1 (ay hj'))
   .rcases gt j h1 hh1 with⟨rfl,rfl⟩|⟨hj,hj'⟩
    .exact absurd ep ((gp (by omega)).2.1 f1 (ay oE))
    .exact V.un i j f1 h1 oE hj' ep h0
  .rcases mem_set oS with rfl|⟨i,hi,oE⟩
   .exact(gp h0).2.2.1
   .exact V.cl f1 (ay oE) h0 uX
  .show(q.a.aP f1.aq).2=0
   rcases mem_set oS with rfl|⟨i,hi,oE⟩
   .rw[(gp h0).2.2.1]
   .exact V.ex f1 (ay oE) h0
  .rcases mem_set oS with rfl|⟨i,hi,oE⟩
   .rw[gn h0];rfl
   .exact V.em f1 (ay oE) h0
  .rcases mem_set oS with rfl|⟨i,hi,oE⟩
   .exact(gp h0).2.2.2
   .exact V.fl f1 (ay oE) h0
 refine⟨V',λj=>?_⟩
 by_cases hjg:0<=g.aq/\g.aq=j
 .obtain⟨h0,rfl⟩:=hjg;rw[V'.jB (k:=k) (f:=g) (by show(q.l.set k g)[k]?=_;rw[dO hk]) h0,eE (.inr (gp h0).2.1)];exact(gp h0).2.2.1.symm
 rcases gQ q j with h|⟨i,f1,oS,rfl,h0⟩
 .rw[eE h,eE (q:={q with l:=q.l.set k g})]
  by_cases hj:j<0
  .exact .inl hj
  .refine .inr (λf1 oS=>?_)
   rcases mem_set oS with rfl|⟨i,hi,oE⟩
   .intro e;exact hjg ⟨by omega,e⟩
   .exact h.resolve_left hj f1 (ay oE)
 .rw[V.jB oS h0]
  by_cases uY:i=k
  .subst uY;have:f1=f:=by rw[oS]at hf;injection hf
   subst this;rw[eE (q:={q with l:=q.l.set i g}) (.inr (λx hx=>by
    rcases mem_set hx with rfl|⟨i',hi,oE⟩
    .intro e;exact hjg ⟨by omega,e⟩
    .intro e;exact hi (V.un i' i x f1 oE oS e (by omega))))]
   exact V.cl f1 (ay oS) h0 hd
  .exact V'.jB (k:=i) (f:=f1) (by show(q.l.set k g)[i]?=_;rw[gJ (by omega)];exact oS) h0
variable{l l':List Fr}{p j:Int}{n K k:Nat}{a:St}{f:Fr}
theorem Ul(m:Nat)(s:QS):s.j0 (m+1)=if 0<(jO s.l s.hand).held then s.turn.j0 m else if(jO s.l s.hand).used=true then QS.j0 m {s.turn with l:=s.l.set s.hand {jO s.l s.hand with used:=false}}else(s.turn,(s.hand:Int)):=rfl
theorem zH(h:findF l p= -1)(h0:0<=p):∀f∈l,f.aq≠p:=by
 intro f hf e;unfold findF at h;rw[if_neg (by omega)]at h;unfold Gj at h
 split at h
 .omega
 .rename_i hn;exact hn (JK.2 ⟨f,hf,by simpa using e⟩)
theorem Um{q:QS}(H:Hq q n K)(p:Int)(b:ByteArray)(hb:b.size<=232)(h0:(q.bh p).2.2=0):((q.bh p).1.fK p b).2=0:=by
 have key:∀(q':QS) (k:Nat) (f:Fr),findF q'.l p=k->q'.l[k]?=some f->f.held≠0->(q'.fK p b).2=0:=λq' k f e hf hn=>by
  unfold QS.fK QS.iA;rw[if_neg (by omega),e,if_neg (by omega),show((k:Nat):Int).toNat=k by omega,hf];dsimp only;rw[if_neg hn]
 have hit:∀(l:List Fr) (k:Nat) (f:Fr),l[k]?=some f->f.aq=p->0<=p->(∀(j:Nat) (a:Fr),j<k->l[j]?=some a->a.aq≠p)->findF l p=k:=λl k f hf e h0 ha=>by
  unfold findF;rw[if_neg (by omega)];exact uf hf (by simpa using e) (λj a hj hja=>by simpa using ha j a hj hja)
 unfold QS.bh at h0 ⊢
 rcases gM q.l p with e|⟨k,f,e,hk,he,hp⟩
 .rw[e,if_neg (by omega)]at h0 ⊢
  by_cases hr:(q.a.aP p).2≠0
  .rw[if_pos hr]at h0;exact absurd h0 hr
  rw[if_neg hr]at h0 ⊢;have hp:0<=p:=by
   by_cases hp:0<=p
   .exact hp
   .exfalso;apply hr;unfold St.aP St.at;rw[if_neg hp];decide
  obtain⟨v1,v3⟩:=H.Ug;have va:=jA q
  by_cases hv:q.aN.2<0
  .rw[if_pos hv]at h0;exact absurd h0 (by show(12:Int)≠0;decide)
  rw[if_neg hv]at h0 ⊢
  rcases v3 with v3|⟨k,v3,jx⟩
  .omega
  rw[v3,show((k:Nat):Int).toNat=k by omega]at h0 ⊢
  by_cases cA:(q.aN.1.bT k).2≠0
  .rw[if_pos cA]at h0;exact absurd h0 cA
  rw[if_neg cA];have Pz:∀f∈q.l,f.aq≠p:=zH e hp;have lr:(q.aN.1.bT k).1.l.map Fr.aq=q.l.map Fr.aq:=by
   have sp:∀(m:Nat) (s:QS),s.hand<s.l.length->(s.j0 m).1.l.map Fr.aq=s.l.map Fr.aq:=by
    intro m
    induction m with
    |zero=>intro s _;rfl
    |succ m ih=>
     intro s hs;rw[Ul];have ht:s.turn.hand<s.turn.l.length:=qQ _ (by show 0<s.l.length;omega)
     split
     .exact ih s.turn ht
     .split
      .have hx:=ih {s.turn with l:=s.l.set s.hand {jO s.l s.hand with used:=false}} (by show s.turn.hand<(s.l.set _ _).length;rw[bW];exact ht);rw[hx];show(s.l.set s.hand _).map Fr.aq=_;rw[qJ];apply mu;intro i;rw[iL]
       split
       .rename_i hi;subst hi;rw[if_pos (by simpa using hs),jr,km hs];rfl
       .rfl
      .rfl
   have bp:(q.aN.1.bT k).1.l.map Fr.aq=q.aN.1.l.map Fr.aq:=by
    have hkv:k<q.aN.1.l.length:=by omega
    unfold QS.bT
    split
    .split
     .show(q.aN.1.l.set k _).map Fr.aq=_;rw[qJ];apply mu;intro i;rw[iL]
      split
      .rename_i hi;subst hi;rw[if_pos (by simpa using hkv),jr,km hkv];rfl
      .rfl
     .rfl
    .rfl
   rw[bp];unfold QS.aN
   split
   .rfl
   .exact sp _ q H.lh
  have rS:=(vP (k:=k) v1.f (by omega)).2;refine key _ k ⟨p,⟨(q.a.aP p).1.toArray⟩,1,false,true⟩ (hit _ k ⟨p,⟨(q.a.aP p).1.toArray⟩,1,false,true⟩ (by rw[dO (by omega)]) rfl hp (λj a hj hja=>?_)) (by rw[dO (by omega)]) (by show(1:Int)≠0;decide);rw[gJ (by omega)]at hja;have hm:a.aq∈q.l.map Fr.aq:=by rw[<-lr];exact qL (ay hja)
  obtain⟨f',hf',e'⟩:=dC.1 hm;rw[<-e'];exact Pz f' hf'
 .rw[e,if_pos (by omega),show((k:Nat):Int).toNat=k by omega,nt hk];have jx:k<q.l.length:=(aS.1 hk).1;have hfb:=H.f f (ay hk);refine key _ k {f with held:=f.held+1,used:=true} (hit _ k {f with held:=f.held+1,used:=true} (by rw[dO jx]) he hp (λj a hj hja=>?_)) (by rw[dO jx]) (by show f.held+1≠0;omega);rw[gJ (by omega)]at hja;intro ea;have:findF q.l p=j\/findF q.l p<k:=by
   right;unfold findF;rw[if_neg (by omega)];unfold Gj;have hj2:=(aS.1 hja);obtain⟨hjl,hje⟩:=hj2;have hle:q.l.findIdx (λf=>decide (f.aq=p))<=j:=by
    by_cases h:q.l.findIdx (λf=>decide (f.aq=p))<=j
    .exact h
    .have:=Ed (p:=λf=>decide (f.aq=p)) (xs:=q.l) (i:=j) (by omega);rw[hje]at this;simp[ea]at this
   rw[if_pos (by omega)];omega
  omega
def Lx(f:Fr):Int×ByteArray×Bool×Int:=(f.aq,f.fS,f.cD,f.held)
theorem pdh_pd(e:l'.map Lx=l.map Lx):l'.map Sh.pd=l.map Sh.pd:=by
 have h:∀l:List Fr,l.map Sh.pd=(l.map Lx).map (λx=>(x.1,x.2.1,x.2.2.1)):=λl=>by rw[j6];rfl
 rw[h,h,e]
theorem Hl(e:l'.map Lx=l.map Lx)(h:∀f∈l,f.held=0):∀f∈l',f.held=0:=λf hf=>by
 have:Lx f∈l.map Lx:=by rw[<-e];exact qL hf
 obtain⟨f',h1,h2⟩:=dC.1 this;have h3:f'.held=f.held:=congrArg (λx=>x.2.2.2) h2;rw[<-h3];exact h f' h1
theorem Ly(s:QS)(hl:s.hand<s.l.length)(hh:∀f∈s.l,f.held=0):∀m,s.l.countP Fr.used<m->∃k:Nat,(s.j0 m).2=k/\k<s.l.length/\(s.j0 m).1.l.map Lx=s.l.map Lx:=by
 intro m
 induction m generalizing s with
 |zero=>intro h;omega
 |succ m ih=>
  intro hm;have hf:=km hl;have h0:=hh _ (ay hf);have ht:(s.hand+1) % s.l.length<s.l.length:=qQ _ (by omega);rw[Ul,if_neg (by omega)]
  by_cases hu:(jO s.l s.hand).used=true
  .rw[if_pos hu];have EJ:(s.l.set s.hand {jO s.l s.hand with used:=false}).map Lx=s.l.map Lx:=kp s.l Lx s.hand hf rfl;have hlen:(s.l.set s.hand {jO s.l s.hand with used:=false}).length=s.l.length:=bW ..;have hc:(s.l.set s.hand {jO s.l s.hand with used:=false}).countP Fr.used<s.l.countP Fr.used:=by
    rw[List.countP_set hl];have e:s.l[s.hand]=jO s.l s.hand:=by unfold jO;rw[aL hl];rfl
    have hp:0<s.l.countP Fr.used:=List.countP_pos_iff.2 ⟨_,jJ hl,by rw[e];exact hu⟩;rw[e];simp[hu];omega
   obtain⟨k,h1,h2,h3⟩:=ih {s.turn with l:=s.l.set s.hand {jO s.l s.hand with used:=false}} (by rw[hlen];exact ht)
    (λf BO=>(yh BO).elim (hh f) (λe=>by rw[e];exact h0)) (by show List.countP _ (s.l.set _ _)<m;omega)
   rw[hlen]at h2;exact⟨k,h1,h2,h3.trans EJ⟩
  .rw[if_neg hu];exact⟨s.hand,rfl,hl,rfl⟩
theorem Fl(s:QS)(hl:s.hand<s.l.length)(hh:∀f∈s.l,f.held=0):∃k:Nat,s.aN.2=k/\k<s.l.length/\s.aN.1.l.map Lx=s.l.map Lx:=by
 unfold QS.aN
 rcases ER (λf=>decide (f.aq<0)) s.l with e|⟨k,f,e,hf,_⟩
 .rw[e,if_neg (by omega)];exact Ly s hl hh _ (by have:=vd (p:=Fr.used) (l:=s.l);omega)
 .rw[e,if_pos (by omega)];exact⟨k,rfl,(aS.1 hf).1,rfl⟩
theorem Zc.len{c:C}(z:Zc c n a K){l:Int}(h:(a.aP l).2=0):(a.aP l).1.length=232:=by
 have hr:=z.read l;rw[vF z.g]at hr;rw[<-hr]at h ⊢;exact GW z.g h
theorem ba_eta(b:ByteArray):(⟨b.data.toList.toArray⟩:ByteArray)=b:=by simp
theorem Hm{q:QS}(V:Vi q)(hf:q.l[k]?=some f)(he:f.aq=p)(h0:0<=p)(h1:f.held=1)(hN:∀(i:Nat) (h:Fr),i≠k->q.l[i]?=some h->h.held=0):
  (q.iI p).1.a=q.a/\Vi (q.iI p).1/\(∀j,(q.iI p).1.vw j=q.vw j)/\∀f∈(q.iI p).1.l,f.held=0:=by
 have jx:=(aS.1 hf).1;have e:findF q.l p=k:=by rw[<-he];exact Fh hf (by omega) (λj h hj ej=>V.un j k h f hj hf ej (by omega))
 have hE:(q.iI p).1={q with l:=q.l.set k {f with held:=f.held-1}}:=by
  unfold QS.iI QS.iA;rw[e,if_neg (by omega),show((k:Nat):Int).toNat=k by omega,hf];dsimp only;rw[if_neg (by omega)]
 rw[hE];obtain⟨V1,w1⟩:=V.pd (q':={q with l:=q.l.set k {f with held:=f.held-1}}) rfl (kp q.l Sh.pd k hf rfl);refine⟨rfl,V1,w1,λg hg=>?_⟩
 rcases mem_set hg with rfl|⟨i,hi,oE⟩
 .show f.held-1=0;omega
 .exact hN i g hi oE
theorem zI{q:QS}(N:∀f∈q.l,f.held=0):q.ur=0:=by
 unfold QS.ur;rw[JC];intro f hf;rw[N f hf];decide
theorem Vi.setp{q:QS}(V:Vi q)(hf:q.l[k]?=some f)(h0:0<=f.aq)(g:Fr)(ep:g.aq=f.aq)(hd:g.cD=true)(hs:g.fS.size=232):
  Vi {q with l:=q.l.set k g}/\∀j,QS.vw {q with l:=q.l.set k g} j=if j=f.aq then(g.fS.data.toList,0)else q.vw j:=by
 have hk:=(aS.1 hf).1;have gt:∀(i:Nat) (x:Fr),(q.l.set k g)[i]?=some x->∃x',q.l[i]?=some x'/\x'.aq=x.aq:=λi x hx=>by
  by_cases uY:i=k
  .subst uY;rw[dO hk]at hx;injection hx with hx
   exact⟨f,hf,by rw[<-hx,ep]⟩
  .rw[gJ (by omega)]at hx;exact⟨x,hx,rfl⟩
 have V':Vi {q with l:=q.l.set k g}:=by
  refine⟨λi j f1 h1 oS hh1 e1 RD=>?_,λf1 oS RD uX=>?_,λf1 oS RD=>?_,λf1 oS RD=>?_,λf1 oS RD=>?_⟩
  .obtain⟨f',a1,a2⟩:=gt i f1 oS;obtain⟨h',b1,b2⟩:=gt j h1 hh1;exact V.un i j f' h' a1 b1 (by omega) (by omega)
  .rcases mem_set oS with rfl|⟨i,hi,oE⟩
   .rw[hd]at uX;cases uX
   .exact V.cl f1 (ay oE) RD uX
  .show(q.a.aP f1.aq).2=0
   rcases mem_set oS with rfl|⟨i,hi,oE⟩
   .rw[ep];exact V.ex f (ay hf) h0
   .exact V.ex f1 (ay oE) RD
  .rcases mem_set oS with rfl|⟨i,hi,oE⟩
   .omega
   .exact V.em f1 (ay oE) RD
  .rcases mem_set oS with rfl|⟨i,hi,oE⟩
   .exact hs
   .exact V.fl f1 (ay oE) RD
 refine⟨V',λj=>?_⟩
 by_cases hj:j=f.aq
 .subst hj;rw[if_pos rfl,<-ep];exact V'.jB (k:=k) (f:=g) (by show(q.l.set k g)[k]?=_;rw[dO hk]) (by omega)
 .rw[if_neg hj]
  rcases gQ q j with h|⟨i,f1,oS,rfl,RD⟩
  .rw[eE h,eE (q:={q with l:=q.l.set k g}) (h.imp id (λh x hx=>by
    rcases mem_set hx with rfl|⟨i,hi,oE⟩
    .rw[ep];exact h f (ay hf)
    .exact h x (ay oE)))]
  .rw[V.jB oS RD];refine V'.jB (k:=i) (f:=f1) ?_ RD;have uY:i≠k:=λe=>by
    subst e;have:f1=f:=by rw[oS]at hf;injection hf
    exact hj (by rw[this])
   show(q.l.set k g)[i]?=_;rw[gJ (by omega)];exact oS
theorem zJ(l:List rJ):∀(k i:Nat),jU l k<=i->i<k->(l[i]?).getD none=none
 |0,i,_,h=>absurd h (j9 i)
 |k+1,i,h1,h2=>by
  unfold jU at h1
  by_cases h:((l[k]?).getD none).isSome=true
  .rw[if_pos h]at h1;omega
  .rw[if_neg h]at h1
   by_cases hk:i=k
   .subst hk;simpa using h
   .exact zJ l k i h1 (by omega)
theorem next_at(a:St)(j:Int):({a with now:=iT a.eg,bX:=a.eg,ep:=a.ep+1}:St).at j=unfr (a.at j):=by
 unfold St.at
 by_cases h0:0<=j
 .rw[if_pos h0,if_pos h0];show((iT a.eg)[j.toNat]?).getD none=_;rw[TE,jr,pM]
  by_cases h:j.toNat<jU a.now a.now.length
  .rw[if_pos h]
   cases hx:a.now[j.toNat]? with
   |none=>rfl
   |some u=>rfl
  .rw[if_neg h]
   by_cases hl:j.toNat<a.now.length
   .rw[zJ a.now a.now.length j.toNat (by omega) hl];rfl
   .rw[gu (by omega)];rfl
 .rw[if_neg h0,if_neg h0];rfl
theorem mZ(a:St)(j:Int):a.aK.1.aP j=a.aP j/\((a.aK.1.at j).isSome=(a.at j).isSome):=by
 unfold St.aK
 split
 .exact⟨rfl,rfl⟩
 .unfold St.aP;show(match St.at {a with now:=iT a.eg,bX:=a.eg,ep:=a.ep+1} j with|some (_,b)=>(b,(0:Int))|none=>([],3))=_/\(St.at {a with now:=iT a.eg,bX:=a.eg,ep:=a.ep+1} j).isSome=_;rw[next_at]
  cases a.at j with
  |none=>exact⟨rfl,rfl⟩
  |some u=>exact⟨rfl,rfl⟩
theorem Vi.ko{q:QS}(V:Vi q):Vi {q with a:=q.a.aK.1}/\∀j,QS.vw {q with a:=q.a.aK.1} j=q.vw j:=by
 refine⟨⟨V.un,λf hf h0 hd=>?_,λf hf h0=>?_,V.em,V.fl⟩,λj=>?_⟩
 .show q.a.aK.1.aP f.aq=_;rw[(mZ q.a _).1];exact V.cl f hf h0 hd
 .show(q.a.aK.1.aP f.aq).2=0;rw[(mZ q.a _).1];exact V.ex f hf h0
 .unfold QS.vw;show(if 0<=findF q.l j then _ else q.a.aK.1.aP j)=_;rw[(mZ q.a j).1]
theorem Lz{q:QS}(V:Vi q)(hk:k<q.l.length):
  ((q.bT k).2=0/\(q.bT k).1.a.bX=q.a.bX/\Vi (q.bT k).1/\(∀j,(q.bT k).1.vw j=q.vw j)/\∃f,(q.bT k).1.l[k]?=some f/\f.cD=false/\(q.bT k).1.l.map Fr.held=q.l.map Fr.held/\(q.bT k).1.l.map Fr.aq=q.l.map Fr.aq)\/q.bT k=(q,11):=by
 have hf:=km hk;unfold QS.bT
 by_cases hd:(jO q.l k).cD=true
 .have h0:0<=(jO q.l k).aq:=by
   by_cases h:0<=(jO q.l k).aq
   .exact h
   .have:=V.em _ (ay hf) (by omega);rw[hd]at this;cases this
  rw[if_pos hd];have hx:=V.ex _ (ay hf) h0;have hl:=V.fl _ (ay hf) h0;have hw:(q.a.aD (jO q.l k).aq (jO q.l k).fS.data.toList).2=0/\(q.a.aD (jO q.l k).aq (jO q.l k).fS.data.toList).1.bX=q.a.bX\/q.a.aD (jO q.l k).aq (jO q.l k).fS.data.toList=(q.a,11):=by
   unfold St.aD;rw[if_neg (by simp[hl]),if_neg (by rw[uw]at hx;simp[hx])]
   split
   .exact .inr rfl
   .exact .inl ⟨rfl,rfl⟩
  rcases hw with⟨hw,ho⟩|hw
  .rw[if_pos hw];obtain⟨V',hv⟩:=V.wrote hf h0 hw;exact .inl ⟨rfl,ho,V',hv,{jO q.l k with cD:=false},by show(q.l.set k _)[k]?=_;rw[dO hk],rfl,kp q.l Fr.held k hf rfl,kp q.l Fr.aq k hf rfl⟩
  .rw[hw,if_neg (by simp)];exact .inr rfl
 .rw[if_neg hd];exact .inl ⟨rfl,rfl,V,λj=>rfl,_,hf,by simpa using hd,rfl,rfl⟩
theorem back_d{q:QS}(hk:k<q.l.length)(h0:(q.bT k).2=0){i:Nat}(hf:(q.bT k).1.l[i]?=some f)(hd:f.cD=true):i≠k/\q.l[i]?=some f:=by
 have hk2:=km hk;unfold QS.bT at h0 hf
 by_cases h1:(jO q.l k).cD=true
 .rw[if_pos h1]at h0 hf
  by_cases h2:(q.a.aD (jO q.l k).aq (jO q.l k).fS.data.toList).2=0
  .rw[if_pos h2]at hf;have hf:(q.l.set k {jO q.l k with cD:=false})[i]?=some f:=hf
   by_cases e:i=k
   .subst e;rw[dO hk]at hf;injection hf with hf
    subst hf
    cases hd
   .rw[gJ (by omega)]at hf;exact⟨e,hf⟩
  .rw[if_neg h2]at h0;exact absurd h0 h2
 .rw[if_neg h1]at hf;have hf:q.l[i]?=some f:=hf;refine⟨λe=>?_,hf⟩;subst e;rw[hk2]at hf;injection hf with hf
  rw[hf]at h1;exact h1 hd
theorem Un{q:QS}(H:Hq q n K)(V:Vi q)(N:∀f∈q.l,f.held=0)(p:Int):
  (q.bh p).1.a.bX=q.a.bX/\Vi (q.bh p).1/\(∀j,(q.bh p).1.vw j=q.vw j)/\
  (((q.vw p).2=0/\(q.bh p).2=(⟨(q.vw p).1.toArray⟩,0)/\∃(k:Nat) (f:Fr),(q.bh p).1.l[k]?=some f/\f.aq=p/\0<=p/\f.held=1/\∀(i:Nat) (h:Fr),i≠k->(q.bh p).1.l[i]?=some h->h.held=0)\/
   ((q.vw p).2=3/\(q.bh p).2=(⟨#[]⟩,3)/\∀f∈(q.bh p).1.l,f.held=0)\/((q.vw p).2=0/\(q.bh p).2=(⟨#[]⟩,11)/\∀f∈(q.bh p).1.l,f.held=0)):=by
 obtain⟨c,z⟩:=H.z
 rcases gM q.l p with e|⟨k,f,e,hk,he,BR⟩
 .have Pz:p<0\/∀f∈q.l,f.aq≠p:=by
   by_cases h0:p<0
   .exact .inl h0
   .exact .inr (zH e (by omega))
  have hvw:=eE (q:=q) Pz
  by_cases hr:(q.a.aP p).2≠0
  .have hE:q.bh p=(q,⟨#[]⟩,(q.a.aP p).2):=by
    unfold QS.bh;rw[e,if_neg (by omega),if_pos hr]
   have h3:(q.a.aP p).2=3:=by
    unfold St.aP at hr ⊢
    split
    .rename_i h;rw[h]at hr;exact absurd rfl hr
    .rfl
   rw[hE];exact⟨rfl,V,λj=>rfl,.inr (.inl ⟨by rw[hvw];exact h3,by rw[h3],N⟩)⟩
  have BU:(q.a.aP p).2=0:=by simpa using hr
  obtain⟨k,v1,v2,v3⟩:=Fl q H.lh N;have va:=jA q;obtain⟨V1,w1⟩:=V.pd (q':=q.aN.1) va.1 (pdh_pd v3);have hkv:k<q.aN.1.l.length:=by omega
  rcases Lz V1 hkv with⟨b1,b2,b3,b4,f,b5,b6,b7,b8⟩|hb
  .have hE:q.bh p=({(q.aN.1.bT k).1 with l:=(q.aN.1.bT k).1.l.set k ⟨p,⟨(q.a.aP p).1.toArray⟩,1,false,true⟩},⟨(q.a.aP p).1.toArray⟩,0):=by
    unfold QS.bh;rw[e,if_neg (by omega),if_neg hr,v1,if_neg (by omega),show((k:Nat):Int).toNat=k by omega,if_neg (by rw[b1];simp)]
   have BR:0<=p:=Hk BU;have hpg:∀h∈(q.aN.1.bT k).1.l,h.aq≠p:=λh hh=>by
    have:h.aq∈q.l.map Fr.aq:=by
     have e1:q.aN.1.l.map Fr.aq=q.l.map Fr.aq:=by
      have hx:∀l:List Fr,l.map Fr.aq=(l.map Lx).map (λx=>x.1):=λl=>by rw[j6];rfl
      rw[hx,hx,v3]
     rw[<-e1,<-b8];exact qL hh
    obtain⟨f',h1,h2⟩:=dC.1 this;rw[<-h2];exact Pz.resolve_left (by omega) f' h1
   have hrd:(q.aN.1.bT k).1.a.aP p=q.a.aP p:=by
    have h1:=(b4 p).trans (w1 p);rw[eE (q:=(q.aN.1.bT k).1) (.inr hpg),hvw]at h1;exact h1
   have hsw:=b3.swap b5 b6 ⟨p,⟨(q.a.aP p).1.toArray⟩,1,false,true⟩ (.inr ⟨BR,rfl,hpg,by
    show(q.aN.1.bT k).1.a.aP p=((q.a.aP p).1,0);rw[hrd];exact kV rfl BU,by show(q.a.aP p).1.toArray.size=232;simpa using z.len BU⟩)
   rw[hE];refine⟨by show(q.aN.1.bT k).1.a.bX=_;rw[b2,va.1],hsw.1,λj=>((hsw.2 j).trans (b4 j)).trans (w1 j),.inl ⟨by rw[hvw];exact BU,by rw[hvw],k,⟨p,⟨(q.a.aP p).1.toArray⟩,1,false,true⟩,?_,rfl,BR,rfl,λi h hi hh=>?_⟩⟩
   .show(List.set _ _ _)[k]?=_;rw[dO (aS.1 b5).1]
   .have hh:(List.set (q.aN.1.bT k).1.l k _)[i]?=some h:=hh;rw[gJ (by omega)]at hh;have h3:h.held∈q.aN.1.l.map Fr.held:=by rw[<-b7];exact qL (ay hh)
    obtain⟨f',h4,h5⟩:=dC.1 h3;rw[<-h5];exact Hl v3 N f' h4
  .have hE:q.bh p=(q.aN.1,⟨#[]⟩,11):=by
    unfold QS.bh;rw[e,if_neg (by omega),if_neg hr,v1,if_neg (by omega),show((k:Nat):Int).toNat=k by omega,hb,if_pos (by simp)]
   rw[hE];exact⟨by show q.aN.1.a.bX=_;rw[va.1],V1,w1,.inr (.inr ⟨by rw[hvw];exact BU,rfl,Hl v3 N⟩)⟩
 .have jx:=(aS.1 hk).1;have hE:q.bh p=({q with l:=q.l.set k {f with held:=f.held+1,used:=true}},f.fS,0):=by
   unfold QS.bh;rw[e,if_pos (by omega),show((k:Nat):Int).toNat=k by omega,nt hk]
  have hvw:q.vw p=(f.fS.data.toList,0):=by rw[<-he];exact V.jB hk (by omega)
  obtain⟨V1,w1⟩:=V.pd (q':={q with l:=q.l.set k {f with held:=f.held+1,used:=true}}) rfl (kp q.l Sh.pd k hk rfl);rw[hE];refine⟨rfl,V1,w1,.inl ⟨by rw[hvw],by rw[hvw,ba_eta],k,{f with held:=f.held+1,used:=true},?_,he,BR,?_,λi h hi hh=>?_⟩⟩
  .show(q.l.set k _)[k]?=_;rw[dO jx]
  .have:=N f (ay hk);show f.held+1=1;omega
  .have hh:(q.l.set k _)[i]?=some h:=hh;rw[gJ (by omega)]at hh;exact N h (ay hh)
structure Wp(q:QS)(n K:Nat):Prop where
 H:Hq q n K
 V:Vi q
 N:∀f∈q.l,f.held=0
structure Nx(q q':QS)(n K:Nat):Prop where
 w:Wp q' n K
 o:q'.a.bX=q.a.bX
structure Nv(q q':QS)(n K:Nat):Prop extends Nx q q' n K where
 v:∀j,q'.vw j=q.vw j
section
variable{q:QS}{n K:Nat}
theorem Wp.more(h:Wp q n K){K':Nat}(hk:K<=K'):Wp q n K':=⟨h.H.more hk,h.V,h.N⟩
theorem Nv.self(h:Wp q n K):Nv q q n K:=⟨⟨h,rfl⟩,λ_=>rfl⟩
theorem Fo(q:QS)(j:Int):(q.vw j).2=0\/q.vw j=([],3):=by
 unfold QS.vw
 split
 .exact .inl rfl
 .unfold St.aP
  split
  .exact .inl rfl
  .exact .inr rfl
theorem Wp.len(h:Wp q n K)(h0:(q.vw j).2=0):(q.vw j).1.length=232:=by
 obtain⟨c,z⟩:=h.H.z
 rcases gQ q j with ho|⟨k,f,hk,rfl,hp⟩
 .rw[eE ho]at h0 ⊢;exact z.len h0
 .rw[h.V.jB hk hp];have:=h.V.fl f (ay hk) hp;simpa using this
theorem vw_pos(h0:(q.vw j).2=0):0<=j:=by
 unfold QS.vw at h0
 split at h0
 .rcases gM q.l j with e|⟨_,_,_,_,_,h⟩
  .omega
  .exact h
 .exact Hk h0
theorem Wp.get(h:Wp q n K)(p:Int):Nv q (q.dK p).1 n (K+1)/\
  (((q.vw p).2=0/\(q.dK p).2=(⟨(q.vw p).1.toArray⟩,0))\/(q.vw p=([],3)/\(q.dK p).2=(⟨#[]⟩,3))\/((q.vw p).2=0/\(q.dK p).2=(⟨#[]⟩,11))):=by
 obtain⟨h1,h2,h3,h4⟩:=Un h.H h.V h.N p;have HH:=h.H.get p;unfold QS.dK at HH ⊢
 rcases h4 with⟨e0,e1,k,f,hf,he,BR,hh,hN⟩|⟨e0,e1,e2⟩|⟨e0,e1,e2⟩
 .rw[e1,if_neg (by simp)]at HH;rw[e1,if_neg (by simp)];obtain⟨l1,l2,l3,l4⟩:=Hm h2 hf he BR hh hN;exact⟨⟨⟨⟨HH,l2,l4⟩,by rw[l1];exact h1⟩,λj=>(l3 j).trans (h3 j)⟩,.inl ⟨e0,rfl⟩⟩
 .rw[e1,if_pos (by simp)]at HH;rw[e1,if_pos (by simp)];exact⟨⟨⟨⟨HH,h2,e2⟩,h1⟩,h3⟩,.inr (.inl ⟨(Fo q p).resolve_left (by omega),rfl⟩)⟩
 .rw[e1,if_pos (by simp)]at HH;rw[e1,if_pos (by simp)];exact⟨⟨⟨⟨HH,h2,e2⟩,h1⟩,h3⟩,.inr (.inr ⟨e0,rfl⟩)⟩
theorem Wp.put(h:Wp q n K)(p:Int)(b:ByteArray)(hb:b.size<=232):Nx q (q.dM p b).1 n (K+1)/\
  (((q.vw p).2=0/\(q.dM p b).2=0/\∀j,(q.dM p b).1.vw j=if j=p then(eP b.data.toList 232,0)else q.vw j)\/(q.vw p=([],3)/\(q.dM p b).2=3/\∀j,(q.dM p b).1.vw j=q.vw j)\/((q.vw p).2=0/\(q.dM p b).2=11/\∀j,(q.dM p b).1.vw j=q.vw j)):=by
 obtain⟨h1,h2,h3,h4⟩:=Un h.H h.V h.N p;have HH:=h.H.put_ p b;unfold QS.dM at HH ⊢;rw[if_neg (by omega)]at HH ⊢
 rcases h4 with⟨e0,e1,k,f,hf,he,BR,hh,hN⟩|⟨e0,e1,e2⟩|⟨e0,e1,e2⟩
 .rw[e1,if_neg (by simp)]at HH ⊢;have jx:=(aS.1 hf).1;have e:findF (q.bh p).1.l p=k:=by
   have e:=Fh hf (by omega) (λj h hj ej=>h2.un j k h f hj hf ej (by omega));rw[he]at e;exact e
  have hE:((q.bh p).1.fK p b).1={(q.bh p).1 with l:=(q.bh p).1.l.set k {f with fS:=rR b,cD:=true,used:=true}}:=by
   unfold QS.fK QS.iA;rw[if_neg (by omega),e,if_neg (by omega),show((k:Nat):Int).toNat=k by omega,hf];dsimp only;rw[if_neg (by omega)]
  have EJ:=h2.setp hf (by omega) {f with fS:=rR b,cD:=true,used:=true} rfl rfl (zE (by omega));have hlet:=Hm (q:=((q.bh p).1.fK p b).1) (by rw[hE];exact EJ.1) (p:=p) (k:=k) (f:={f with fS:=rR b,cD:=true,used:=true}) (by rw[hE];show(List.set _ _ _)[k]?=_;rw[dO jx]) he BR hh (λi h hi hx=>by
   rw[hE]at hx;have hx:(List.set (q.bh p).1.l k _)[i]?=some h:=hx;rw[gJ (by omega)]at hx;exact hN i h hi hx)
  obtain⟨l1,l2,l3,l4⟩:=hlet;refine⟨⟨⟨HH,l2,l4⟩,by rw[l1,hE];exact h1⟩,.inl ⟨e0,rfl,λj=>?_⟩⟩;rw[l3 j,hE,EJ.2 j,he]
  by_cases hj:j=p
  .rw[if_pos hj,if_pos hj];rfl
  .rw[if_neg hj,if_neg hj];exact h3 j
 .rw[e1,if_pos (by simp)]at HH ⊢;exact⟨⟨⟨HH,h2,e2⟩,h1⟩,.inr (.inl ⟨(Fo q p).resolve_left (by omega),rfl,h3⟩)⟩
 .rw[e1,if_pos (by simp)]at HH ⊢;exact⟨⟨⟨HH,h2,e2⟩,h1⟩,.inr (.inr ⟨e0,rfl,h3⟩)⟩
theorem Wp.xr(h:Wp q n K)(i:Int):Nv q (q.eU i).1 n (K+1)/\((q.eU i).2=0\/(q.eU i).2=3\/(q.eU i).2=11):=by
 have HH:=h.H.xr i;unfold QS.eU at HH ⊢
 split
 .exact⟨.self (h.more (by omega)),.inr (.inl rfl)⟩
 .split
  .exact⟨.self (h.more (by omega)),.inl rfl⟩
  .split
   .rename_i hi _ h3;have:=h.N _ (ay (km (l:=q.l) (k:=i.toNat) (by omega)));omega
   .rename_i hi hp h3;rw[if_neg hi,if_neg hp,if_neg h3]at HH
    rcases Lz h.V (k:=i.toNat) (by omega)with⟨b1,b2,b3,b4,f,b5,b6,b7,b8⟩|hb
    .rw[if_neg (by rw[b1];simp)]at HH ⊢;have hsw:=b3.swap b5 b6 Fr.nil (.inl rfl);refine⟨⟨⟨⟨HH,hsw.1,λg hg=>?_⟩,b2⟩,λj=>(hsw.2 j).trans (b4 j)⟩,.inl rfl⟩
     rcases mem_set hg with rfl|⟨i',hi1,NI⟩
     .rfl
     .have h3:g.held∈q.l.map Fr.held:=by rw[<-b7];exact qL (ay NI)
      obtain⟨f',h4,h5⟩:=dC.1 h3;rw[<-h5];exact h.N f' h4
    .rw[hb,if_pos (by simp)];exact⟨.self (h.more (by omega)),.inr (.inr rfl)⟩
theorem Wp.zF(h:Wp q n K):∀i,i<=q.l.length->Nv q (q.bn i).1 n (K+i)/\((q.bn i).2=0\/(q.bn i).2=11)/\(q.bn i).1.l.length=q.l.length
 |0,_=>⟨.self h,.inl rfl,rfl⟩
 |i+1,hi=>by
  obtain⟨h1,h2,h3⟩:=h.zF i (by omega);have HH:=(h.H.zF (i+1) hi).1;rw[uv]at HH ⊢
  rcases h2 with h2|h2
  .rw[if_neg (by rw[h2];simp)]at HH ⊢
   rcases Lz h1.w.V (k:=i) (by omega)with⟨b1,b2,b3,b4,f,b5,b6,b7,b8⟩|hb
   .refine⟨⟨⟨⟨HH,b3,λg hg=>?_⟩,by rw[b2];exact h1.o⟩,λj=>(b4 j).trans (h1.v j)⟩,.inl b1,?_⟩
    .have h6:g.held∈(q.bn i).1.l.map Fr.held:=by rw[<-b7];exact qL hg
     obtain⟨f',h7,h8⟩:=dC.1 h6;rw[<-h8];exact h1.w.N f' h7
    .have:=congrArg List.length b8;simp only[fo]at this;omega
   .rw[hb]at HH ⊢;exact⟨⟨⟨⟨HH,h1.w.V,h1.w.N⟩,h1.o⟩,h1.v⟩,.inr rfl,h3⟩
  .rw[if_pos (by rw[h2];simp)]at HH ⊢;exact⟨⟨⟨⟨HH,h1.w.V,h1.w.N⟩,h1.o⟩,h1.v⟩,.inr h2,h3⟩
theorem Wp.NK(h:Wp q n K):∀i,i<=q.l.length->(q.bn i).2=0->∀(j:Nat) (f:Fr),(q.bn i).1.l[j]?=some f->f.cD=true->i<=j
 |0,_,_,_,_,_,_=>aY _
 |i+1,hi,h0,j,f,hf,hd=>by
  rw[uv]at h0 hf
  by_cases h2:(q.bn i).2=0
  .rw[if_neg (by rw[h2];simp)]at h0 hf;obtain⟨a1,a2⟩:=back_d (by rw[(h.zF i (by omega)).2.2];omega) h0 hf hd;have:=h.NK i (by omega) h2 j f a2 hd;omega
  .rw[if_pos h2]at h0;exact absurd h0 h2
def QS.ov(q:QS)(j:Int):List UInt8×Int:=({q.a with now:=iT q.a.bX}:St).aP j
theorem Hn{q q':QS}(h:q'.a.bX=q.a.bX)(j:Int):q'.ov j=q.ov j:=by
 unfold QS.ov St.aP St.at;rw[h]
theorem Wp.ko(h:Wp q n K)(hK:K<=999999999000):Wp q.aK.1 n (K+40)/\(∀j,q.aK.1.vw j=q.vw j)/\
  ((q.aK.2=0/\∀j,q.aK.1.ov j=q.vw j)\/(q.aK.2=11/\∀j,q.aK.1.ov j=q.ov j)):=by
 obtain⟨h1,h2,h3⟩:=h.zF q.l.length (ak _);have l2:=h.H.l2;have HH:=h.H.ko hK;unfold QS.aK at HH ⊢;rw[if_neg (by rw[zI h.N];omega)]at HH ⊢
 rcases h2 with h2|h2
 .rw[if_neg (by rw[h2];simp)]at HH ⊢;obtain⟨c1,c2⟩:=h1.w.V.ko;refine⟨⟨HH,c1,h1.w.N⟩,λj=>(c2 j).trans (h1.v j),?_⟩;have LA:=h.NK _ (ak _) h2;generalize hb:(q.bn q.l.length).1=r at *
  by_cases hf:r.a.free<cM r.a.eg.length
  .right;have e:r.a.aK=(r.a,11):=by unfold St.aK;rw[if_pos hf]
   rw[e];exact⟨rfl,λj=>Hn h1.o j⟩
  .left;have e:r.a.aK=({r.a with now:=iT r.a.eg,bX:=r.a.eg,ep:=r.a.ep+1},0):=by unfold St.aK;rw[if_neg hf]
   refine⟨by rw[e],λj=>?_⟩;have e2:QS.ov {r with a:=r.a.aK.1} j=r.a.aK.1.aP j:=by
    rw[e];rfl
   show QS.ov {r with a:=r.a.aK.1} j=_;rw[e2,(mZ r.a j).1,<-h1.v j]
   rcases gQ r j with ho|⟨k,f,hk,rfl,hp⟩
   .rw[eE ho]
   .rw[h1.w.V.jB hk hp];refine h1.w.V.cl f (ay hk) hp ?_
    by_cases hd:f.cD=true
    .have:=LA k f hk hd;have:=(aS.1 hk).1;omega
    .simpa using hd
 .rw[if_pos (by rw[h2];simp)]at HH ⊢;exact⟨(⟨HH,h1.w.V,h1.w.N⟩),h1.v,.inr ⟨h2,λj=>Hn h1.o j⟩⟩
theorem Wp.abort(h:Wp q n K):Wp q.cq n K/\(∀j,q.cq.vw j=q.ov j)/\∀j,q.cq.ov j=q.ov j:=by
 have hn:∀f∈q.cq.l,f=Fr.nil:=λf hf=>om hf;have hp:∀f∈q.cq.l,¬0<=f.aq:=λf hf=>by rw[hn f hf];show ¬(0:Int)<= -1;omega
 refine⟨⟨h.H.abort,⟨λi j f g hi hj e h0=>absurd h0 (hp f (ay hi)),λf hf h0=>absurd h0 (hp f hf),λf hf h0=>absurd h0 (hp f hf),λf hf _=>by rw[hn f hf];rfl,λf hf h0=>absurd h0 (hp f hf)⟩,λf hf=>by rw[hn f hf];rfl⟩,λj=>?_,λj=>rfl⟩
 by_cases hj:j<0
 .rw[eE (.inl hj)];rfl
 .rw[eE (.inr λf hf e=>hp f hf (by omega))];rfl
theorem at_put'(v:Option (Bool×List UInt8))(q:Int):({a with now:=oP a.now a.slot v}:St).at q=if q=(a.slot:Nat)then v else a.at q:=by
 unfold St.at
 by_cases h0:0<=q
 .rw[if_pos h0];show((oP a.now a.slot v)[q.toNat]?).getD none=_;rw[nL _ _ _ (slot_le a)]
  by_cases e:q=(a.slot:Nat)
  .rw[if_pos e,if_pos (by omega)];rfl
  .rw[if_neg e,if_neg (by omega),if_pos h0]
 .rw[if_neg h0,if_neg (by omega),if_neg h0]
theorem vw_new{p:List UInt8}(h:(a.bV p).2.2=0):∃l:Nat,(a.bV p).2.1=l/\l<=511/\a.at (l:Nat)=none/\∀j,(a.bV p).1.aP j=if j=(l:Nat)then(eP p 232,0)else a.aP j:=by
 unfold St.bV at h ⊢
 split at h
 .exact absurd h (by show(4:Int)≠0;decide)
 .rename_i h1;rw[if_neg h1]
  split at h
  .exact absurd h (by show(11:Int)≠0;decide)
  .rename_i h2;rw[if_neg h2];refine⟨a.slot,rfl,by omega,PN a,λj=>?_⟩;unfold St.aP;rw[at_put']
   by_cases e:j=(a.slot:Nat)
   .rw[if_pos e,if_pos e]
   .rw[if_neg e,if_neg e]
theorem Wp.new(h:Wp q n K)(p:ByteArray)(hb:p.size<=232):Nx q (q.bV p.data.toList).1 n (K+1)/\
  ((∃l:Nat,(q.bV p.data.toList).2=(((l:Nat):Int),0)/\l<=511/\q.vw (l:Nat)=([],3)/\∀j,(q.bV p.data.toList).1.vw j=if j=(l:Nat)then(eP p.data.toList 232,0)else q.vw j)\/((q.bV p.data.toList).2=(0,11)/\∀j,(q.bV p.data.toList).1.vw j=q.vw j)):=by
 have HH:=h.H.new p.data.toList;unfold QS.bV at HH ⊢
 by_cases h0:(q.a.bV p.data.toList).2.2=0
 .obtain⟨l,e1,e2,e3,e4⟩:=vw_new h0;have hr:∀f∈q.l,0<=f.aq->f.aq≠(l:Nat):=λf hf h0 e=>by
   have:=h.V.ex f hf h0;unfold St.aP at this;rw[e,e3]at this;exact absurd this (by show(3:Int)≠0;decide)
  have hl:q.vw (l:Nat)=([],3):=by
   rw[eE (.inr λf hf e=>hr f hf (by omega) e)];unfold St.aP;rw[e3]
  have V':Vi {q with a:=(q.a.bV p.data.toList).1}:=⟨h.V.un,λf hf h0 hd=>by show(q.a.bV _).1.aP _=_;rw[e4,if_neg (hr f hf h0)];exact h.V.cl f hf h0 hd,λf hf h0=>by show((q.a.bV _).1.aP _).2=_;rw[e4,if_neg (hr f hf h0)];exact h.V.ex f hf h0,h.V.em,h.V.fl⟩;refine⟨⟨⟨HH,V',h.N⟩,?_⟩,.inl ⟨l,kV e1 h0,e2,hl,λj=>?_⟩⟩
  .show(q.a.bV _).1.bX=_;unfold St.bV
   split
   .rfl
   .split<;>rfl
  .rcases gQ q j with ho|⟨k,f,hk,rfl,hp⟩
   .rw[eE (q:={q with a:=(q.a.bV p.data.toList).1}) ho,eE ho];exact e4 j
   .rw[if_neg (hr f (ay hk) hp),h.V.jB hk hp];exact V'.jB hk hp
 .have e:q.a.bV p.data.toList=(q.a,0,11):=by
   unfold St.bV at h0 ⊢;have hl:¬232<p.data.toList.length:=by simp;omega
   rw[if_neg hl]at h0 ⊢
   split
   .rfl
   .rename_i h1;rw[if_neg h1]at h0;exact absurd rfl h0
  rw[e]at HH ⊢;exact⟨⟨⟨HH,h.V,h.N⟩,rfl⟩,.inr ⟨rfl,λ_=>rfl⟩⟩
theorem Qk{l:Int}(h:(a.at l).isSome=true)(j:Int):(a.aV l).1.aP j=if j=l then([],3)else a.aP j:=by
 obtain⟨h0,h1⟩:=nN h;have hat:(a.aV l).1.at j=if j=l then none else a.at j:=by
  unfold St.aV;rw[if_pos h];unfold St.at
  by_cases hj:0<=j
  .rw[if_pos hj,if_pos hj];show((a.now.set l.toNat none)[j.toNat]?).getD none=_
   by_cases e:j=l
   .subst e;rw[if_pos rfl,dO h1];rfl
   .rw[if_neg e,gJ (by omega)]
  .rw[if_neg hj,if_neg (by omega),if_neg hj]
 unfold St.aP;rw[hat]
 by_cases e:j=l
 .rw[if_pos e,if_pos e]
 .rw[if_neg e,if_neg e]
theorem Wp.drop(h:Wp q n K)(p:Int):Nx q (q.aV p).1 n K/\
  (((q.vw p).2=0/\(q.aV p).2=0/\∀j,(q.aV p).1.vw j=if j=p then([],3)else q.vw j)\/(q.vw p=([],3)/\(q.aV p).2=3/\∀j,(q.aV p).1.vw j=q.vw j)):=by
 have HH:=h.H.drop p;have hold:(q.a.aV p).1.bX=q.a.bX:=by unfold St.aV;split<;>rfl
 unfold QS.aV at HH ⊢;have hnh:¬(0<=findF q.l p/\0<(jO q.l (findF q.l p).toNat).held):=λ⟨h1,h2⟩=>by
  rcases gM q.l p with e|⟨k,f,e,hk,_,_⟩
  .omega
  .rw[e,show((k:Nat):Int).toNat=k by omega,nt hk,h.N f (ay hk)]at h2;omega
 rw[if_neg hnh]at HH ⊢
 by_cases hx:(q.a.at p).isSome=true
 .have e0:(q.a.aV p).2=0:=by unfold St.aV;rw[if_pos hx]
  have hr:=Qk hx;rw[if_neg (by rw[e0];simp)]at HH ⊢
  rcases gM q.l p with e|⟨k,f,e,hk,he,BR⟩
  .rw[e,if_neg (by omega)]at HH ⊢;have BR:=(nN hx).1;have Pz:=zH e BR;have hv:q.vw p=q.a.aP p:=eE (.inr Pz);have V':Vi {q with a:=(q.a.aV p).1}:=⟨h.V.un,λf hf h0 hd=>by show(q.a.aV p).1.aP _=_;rw[hr,if_neg (Pz f hf)];exact h.V.cl f hf h0 hd,λf hf h0=>by show((q.a.aV p).1.aP _).2=_;rw[hr,if_neg (Pz f hf)];exact h.V.ex f hf h0,h.V.em,h.V.fl⟩;refine⟨⟨⟨HH,V',h.N⟩,hold⟩,.inl ⟨by rw[hv];exact uw.2 hx,rfl,λj=>?_⟩⟩
   rcases gQ q j with ho|⟨i,f,hi,rfl,hp⟩
   .rw[eE (q:={q with a:=(q.a.aV p).1}) ho,eE ho];exact hr j
   .rw[if_neg (Pz f (ay hi)),h.V.jB hi hp];exact V'.jB hi hp
  .rw[e,if_pos (by omega),show((k:Nat):Int).toNat=k by omega]at HH ⊢;have jx:=(aS.1 hk).1;have hv:q.vw p=(f.fS.data.toList,0):=by rw[<-he];exact h.V.jB hk (by omega)
   have ne:∀(i:Nat) (g:Fr),i≠k->q.l[i]?=some g->0<=g.aq->g.aq≠p:=λi g hi hg h0 e=>hi (h.V.un i k g f hg hk (by omega) h0);have bX:∀g∈q.l.set k Fr.nil,0<=g.aq->g∈q.l/\g.aq≠p:=λg hg h0=>by
    rcases mem_set hg with rfl|⟨i,hi,oE⟩
    .exact absurd h0 (by show ¬(0:Int)<= -1;omega)
    .exact⟨ay oE,ne i g hi oE h0⟩
   have V':Vi {q with a:=(q.a.aV p).1,l:=q.l.set k Fr.nil}:=by
    refine⟨λi j f1 h1 hi hj ee h0=>?_,λg hg h0 hd=>?_,λg hg h0=>?_,λg hg h0=>?_,λg hg h0=>h.V.fl g (bX g hg h0).1 h0⟩
    .have gt:∀(i:Nat) (x:Fr),(q.l.set k Fr.nil)[i]?=some x->0<=x.aq->q.l[i]?=some x:=λi x hx h0=>by
      by_cases uY:i=k
      .subst uY;rw[dO jx]at hx;injection hx with hx
       subst hx;exact absurd h0 (by show ¬(0:Int)<= -1;omega)
      .rw[gJ (by omega)]at hx;exact hx
     exact h.V.un i j f1 h1 (gt i f1 hi h0) (gt j h1 hj (by omega)) ee h0
    .obtain⟨o1,o2⟩:=bX g hg h0;show(q.a.aV p).1.aP _=_;rw[hr,if_neg o2];exact h.V.cl g o1 h0 hd
    .obtain⟨o1,o2⟩:=bX g hg h0;show((q.a.aV p).1.aP _).2=_;rw[hr,if_neg o2];exact h.V.ex g o1 h0
    .rcases mem_set hg with rfl|⟨i,hi,oE⟩
     .rfl
     .exact h.V.em g (ay oE) h0
   refine⟨⟨⟨HH,V',λg hg=>?_⟩,hold⟩,.inl ⟨by rw[hv],rfl,λj=>?_⟩⟩
   .rcases mem_set hg with rfl|⟨i,hi,oE⟩
    .rfl
    .exact h.N g (ay oE)
   .by_cases hj:j=p
    .subst hj;rw[if_pos rfl,eE (q:={q with a:=(q.a.aV j).1,l:=q.l.set k Fr.nil}) (.inr λg hg e=>(bX g hg (by omega)).2 e)];show(q.a.aV j).1.aP j=_;rw[hr,if_pos rfl]
    .rw[if_neg hj]
     rcases gQ q j with ho|⟨i,g,hi,rfl,hp⟩
     .have ho':j<0\/∀g∈q.l.set k Fr.nil,g.aq≠j:=by
       by_cases hj0:j<0
       .exact .inl hj0
       .refine .inr λg hg=>?_
        rcases mem_set hg with rfl|⟨i,hi,oE⟩
        .show(-1:Int)≠j;omega
        .exact ho.resolve_left hj0 g (ay oE)
      rw[eE ho,eE (q:={q with a:=(q.a.aV p).1,l:=q.l.set k Fr.nil}) ho'];show(q.a.aV p).1.aP j=_;rw[hr,if_neg hj]
     .rw[h.V.jB hi hp];refine V'.jB (k:=i) ?_ hp;show(q.l.set k Fr.nil)[i]?=_;rw[gJ]
      .exact hi
      .rintro rfl;rw[hk]at hi;injection hi with hi
       subst hi;exact hj he
 .have Rw:(q.a.aV p)=(q.a,3):=by unfold St.aV;rw[if_neg hx]
  have hr3:(q.a.aP p).2≠0:=λh=>hx (uw.1 h);rw[Rw,if_pos (by simp)]at HH ⊢;refine⟨⟨⟨HH,h.V,h.N⟩,rfl⟩,.inr ⟨?_,rfl,λ_=>rfl⟩⟩;refine(Fo q p).resolve_left (λh0=>?_)
  rcases gQ q p with ho|⟨i,g,hi,rfl,hp⟩
  .rw[eE ho]at h0;exact hr3 h0
  .exact hr3 (h.V.ex g (ay hi) hp)
end
open Go.RowKit Go.Sort Go.Shelf
variable{w:World}
def Ho:Go.Shelf.Ren:=⟨fun|189=>190|125=>224|257=>223|128=>240|129=>241|294=>231|295=>232|296=>233|297=>234|298=>235|299=>236|216=>237|300=>238|301=>239|328=>246|329=>247|330=>248|331=>249|332=>250|215=>251|343=>254|n=>n,fun|28=>60|3=>3|46=>201|0=>0|51=>259|53=>222|4=>4|183=>288|182=>287|131=>121|5=>5|9=>9|218=>298|222=>128|228=>305|229=>306|n=>n,fun|n=>n⟩
theorem NL:Go.Proofs.Lays.n189 prog Ho:={
 mixed:=by kernel_rfl
 f125:=func224.trans (congrArg some (by kernel_rfl))
 f128:=func240.trans (congrArg some (by kernel_rfl))
 f129:=func241.trans (congrArg some (by kernel_rfl))
 f189:=func190.trans (congrArg some (by kernel_rfl))
 f215:=func251.trans (congrArg some (by kernel_rfl))
 f216:=func237.trans (congrArg some (by kernel_rfl))
 f257:=func223.trans (congrArg some (by kernel_rfl))
 f294:=func231.trans (congrArg some (by kernel_rfl))
 f295:=func232.trans (congrArg some (by kernel_rfl))
 f296:=func233.trans (congrArg some (by kernel_rfl))
 f297:=func234.trans (congrArg some (by kernel_rfl))
 f298:=func235.trans (congrArg some (by kernel_rfl))
 f299:=func236.trans (congrArg some (by kernel_rfl))
 f300:=func238.trans (congrArg some (by kernel_rfl))
 f301:=func239.trans (congrArg some (by kernel_rfl))
 f328:=func246.trans (congrArg some (by kernel_rfl))
 f329:=func247.trans (congrArg some (by kernel_rfl))
 f330:=func248.trans (congrArg some (by kernel_rfl))
 f331:=func249.trans (congrArg some (by kernel_rfl))
 f332:=func250.trans (congrArg some (by kernel_rfl))
 f343:=func254.trans (congrArg some (by kernel_rfl))
 t0:=underlying0
 a0:=Tryz.isAgg0
 z0:=Tryz.sizeOf0
 v0:=Tryz.zeroValue0
 t3:=underlying3
 a3:=Tryz.isAgg3
 z3:=Tryz.sizeOf3
 v3:=Tryz.zeroValue3
 t4:=underlying4
 a4:=Tryz.isAgg4
 z4:=Tryz.sizeOf4
 v4:=Tryz.zeroValue4
 t5:=underlying5
 a5:=Tryz.isAgg5
 z5:=Tryz.sizeOf5
 v5:=Tryz.zeroValue5
 t9:=underlying9
 a9:=Tryz.isAgg9
 z9:=Tryz.sizeOf9
 v9:=Tryz.zeroValue9
 t28:=underlying60
 a28:=Tryz.isAgg60
 z28:=Tryz.sizeOf60
 v28:=Tryz.zeroValue60
 t46:=underlying201
 a46:=Tryz.isAgg201
 z46:=Tryz.sizeOf201
 v46:=Tryz.zeroValue201
 t51:=underlying259
 a51:=Tryz.isAgg259
 z51:=Tryz.sizeOf259
 v51:=Tryz.zeroValue259
 t53:=underlying222
 a53:=Tryz.isAgg222
 z53:=Tryz.sizeOf222
 v53:=Tryz.zeroValue222
 t131:=underlying121
 a131:=Tryz.isAgg121
 z131:=Tryz.sizeOf121
 v131:=Tryz.zeroValue121
 t182:=underlying287
 a182:=Tryz.isAgg287
 z182:=Tryz.sizeOf287
 v182:=Tryz.zeroValue287
 t183:=underlying288
 a183:=Tryz.isAgg288
 z183:=Tryz.sizeOf288
 v183:=Tryz.zeroValue288
 t218:=underlying298
 a218:=Tryz.isAgg298
 z218:=Tryz.sizeOf298
 v218:=Tryz.zeroValue298
 t222:=underlying128
 a222:=Tryz.isAgg128
 z222:=Tryz.sizeOf128
 v222:=Tryz.zeroValue128
 t228:=underlying305
 a228:=Tryz.isAgg305
 z228:=Tryz.sizeOf305
 v228:=Tryz.zeroValue305
 t229:=underlying306
 a229:=Tryz.isAgg306
 z229:=Tryz.sizeOf306
 v229:=Tryz.zeroValue306}
def zK(l:List Int):List Int:=l.mergeSort λx y=>decide (x<=y)
theorem q9(l:List Int):(zK l).length=l.length:=by unfold zK;simp
theorem Uo(g cap:Nat)(zs:List Int)(w:World)(hH:Holds (Value.int .i64) w g 0 zs.toArray)(hblk:g<w.heap.size)(pF:zs.length<4611686018427387904):
  Calls prog 190 #[.slice (some ⟨g,0,none⟩) zs.length cap] w λe w'=>e=.returned (.tuple #[])/\∃n os,w'=grow (putRow (Value.int .i64) (Sort.ahead w n) g 0 (zK zs).toArray) os:=
 Any.slices_Sort_int NL g 0 cap zs w hH hblk pF
theorem Ql(p:Option Addr)(cap:Nat)(w:World):
  Calls prog 190 #[.slice p 0 cap] w λe w'=>e=.returned (.tuple #[])/\w'=w:=
 Any.slices_Sort_int_none NL p cap w
theorem Hp{g n:Nat}{os:Array Obj}(d:Array Int):ag [g] w (grow (putRow (Value.int .i64) (Sort.ahead w n) g 0 d) os):=by
 refine⟨rfl,rfl,rfl,by simp,λk hk ff=>?_⟩;rw[heap_grow_old _ _ (by simpa using hk)];have:g≠k:=λe=>ff (by simp[e]);simp[putRow,mapBlock,Sort.ahead,Array.getElem?_modify,this]
theorem Fp(ts:List Int)(cur rest:List Value)(h:ts.length=cur.length):putCells (Value.int .i64) 0 ts.toArray (cur++rest).toArray=(ts.map (Value.int .i64)++rest).toArray:=by
 apply Array.ext_getElem?;intro j;unfold putCells;rw[Array.getElem?_mapIdx,dj,dj]
 by_cases hc:j<ts.length
 .rw[bF (by omega),bF (by simpa using hc),jr,aL hc,aL (show j<cur.length by omega)];simp[hc]
 .rw[dW (by omega),dW (by simp;omega),fo,h]
  cases rest[j-cur.length]? with
  |none=>rfl
  |some x=>
   simp only[kU];rw[if_neg (by simp;omega)]
theorem Up{v:Value}{l:List Int}(S:aT w 3 1 v l.length (dm l))(hl:l.length<=1000000):
  Calls prog 190 #[v] w λe w'=>e=.returned (.tuple #[])/\aT w' 3 1 v l.length (dm (zK l))/\ag (ai v) w w':=by
 rcases S.2 with⟨rfl,h0⟩|⟨g,cap,rest,rfl,B,hc,hm⟩
 .rw[h0];have GK:l=[]:=D9.1 h0;subst GK;refine(Ql none 0 w).mono ?_;rintro e w' ⟨rfl,rfl⟩;exact⟨rfl,by simpa [zK,dm]using aT.nil w' 3 1,ag.refl _ _⟩
 .obtain⟨lo,hi,hb,hf⟩:=B;have hB:aJ w g 3 (dm l++rest).toArray:=⟨lo,hi,hb,hf⟩;have hn:(dm l).length=l.length:=by unfold dm;simp
  have hH:Holds (Value.int .i64) w g 0 l.toArray:=by
   intro j hj;have hj':j<l.length:=by simpa using hj
   refine⟨?_,?_⟩
   .rw[bg];refine hB.ab ?_;rw[dj,bF (by rw[hn];exact hj')];simp[dm,hj']
   .rw[bg];exact hB.frozen j (by simp[hn];omega)
  refine(Uo g cap l w hH (Array.getElem?_eq_some_iff.1 hb).1 (by omega)).mono ?_;rintro e w' ⟨rfl,n,os,rfl⟩;refine⟨rfl,⟨by unfold dm;simp[q9],.inr ⟨g,cap,rest,rfl,⟨lo,hi,?_,?_⟩,by unfold dm at hc ⊢;simpa [q9]using hc,hm⟩⟩,?_⟩
  .rw[heap_sortedI _ hb,Fp _ _ _ (by rw[hn,q9])];rfl
  .simpa [dm,q9]using hf
  .simpa [ai]using Hp (w:=w) (g:=g) (n:=n) (os:=os) (zK l).toArray
attribute [local go_sem ↓] Go.wp_at_zero Go.wp_at_succ bz
variable{w:World}{y:Y}{n:Nat}{s:PS}
def CK(l:List Fr):List Int:=(l.map Fr.aq).filter λx=>decide (0<=x)
theorem Uq(l:List Fr)(i:Nat)(f:Fr)(hf:l[i]?=some f):CK (l.take (i+1))=if 0<=f.aq then CK (l.take i)++[f.aq]else CK (l.take i):=by
 obtain⟨hi,rfl⟩:=aS.1 hf;unfold CK;rw[gC hi,dA,sq]
 by_cases h:0<=l[i].aq
 .rw[if_pos h];simp[h]
 .rw[if_neg h];simp[h]
theorem pgL_len(l:List Fr):(CK l).length<=l.length:=by
 unfold CK;exact ar (Ea _ _) (by simp)
theorem LB(h:ib w y n s):
  Calls prog 146 #[pp y.pb] w λe w'=> ∃v,e=.returned v/\aT w' 3 1 v (CK s.l).length (dm (zK (CK s.l)))/\Below w.heap.size w w':=by
 have H0:=xh h;have p1:w.cell? ⟨y.pb,1,none⟩=some (.slice (some ⟨y.fg,0,none⟩) s.l.length y.cp):=h.p1;have HL:=xh (show ∀i,(CK (s.l.take i)).length<=32 from λi=>by
  have:=pgL_len (s.l.take i);have:=h.l2;rw[bm]at *;omega)
 obtain⟨N,hN⟩:∃N,s.l.length=N:=⟨_,rfl⟩;have HN:=xh hN;have HT:=xh (show CK (s.l.take N)=CK s.l from by rw[<-hN,fw]);have Gh:N<=32:=by rw[<-hN];exact h.l2
 rw[hN]at p1;have HF:=xh h.yy;clear h hN H0;unfold pp;go_enter func146,ntmps146;go_wp2_with fail
 go_loopw [3,5,14] (λpv _ iv wq=> ∃i:Nat,i<=N/\iv=.int .i64 i/\aT wq 3 1 pv (CK (s.l.take i)).length (dm (CK (s.l.take i)))/\Hid (Below w.heap.size w wq)/\Hid (∀g∈ai pv,w.heap.size<=g)) (λ_ _ iv _=>N-(intOf iv).toNat)
 case atStart=>exact⟨0,aY _,rfl,aT.nil _ _ _,xh (Below.refl _ _),xh (by simp[ai])⟩
 case round=>
  obtain⟨i,hi,rfl,S,O,F⟩:=hrel;obtain⟨VA,vc,rfl⟩:=au S
  by_cases h':i<N
  .have hI:(i:Int)<(N:Int):=by omega
   obtain⟨f,HG⟩:∃f,Hid (s.l[i]?=some f):=⟨_,xh (aL (by rw[HN.o];exact h'))⟩;obtain⟨c0,c1,c2,c3,c4⟩:=(HF.o.below O.o) i f HG.o;have hm:=HL.o i;have NJ:=Uq s.l i f HG.o;have S5:=S.alloc (.cells #[.int .i64 f.aq,.string f.fS,.int .i64 f.held,.bool f.cD,.bool f.used] 167);have O5:=xh (ae O.o (.cells #[.int .i64 f.aq,.string f.fS,.int .i64 f.held,.bool f.cD,.bool f.used] 167))
   have d0:=(aJ.new wr 167 #[.int .i64 f.aq,.string f.fS,.int .i64 f.held,.bool f.cD,.bool f.used]).ab (i:=0) rfl
   by_cases hp:0<=f.aq
   .rw[if_pos hp]at NJ;obtain⟨v',w2,ea,S2,ow,fr⟩:=cQ (P:=prog) S5 60 60 (.int .i64 0) 8 underlying60 ji rfl (.int .i64 f.aq) rfl (by unfold maxLen;omega) (by omega);obtain⟨V2,ix,rfl⟩:=au S2;rw[show(wr.alloc (.cells #[.int .i64 f.aq,.string f.fS,.int .i64 f.held,.bool f.cD,.bool f.used] 167)).heap.size=wr.heap.size+1 from by simp]at ea;have EA:=xh ea
    have SX:=xh (show aT w2 3 1 (.slice V2 ((CK (s.l.take i)).length+1) ix) (CK (s.l.take (i+1))).length (dm (CK (s.l.take (i+1))))from by
     rw[NJ,gi,aU];exact S2)
    have OX:=xh (O5.o.trans (ow.aI O5.o.size F.o));have FX:=xh (show ∀g'∈ai (.slice V2 ((CK (s.l.take i)).length+1) ix),w.heap.size<=g' from λg' hg=>(fr g' hg).elim (F.o g') (λh=>ar O5.o.size h));clear ea S2 ow fr S S5 NJ;generalize (CK (s.l.take i)).length=pl at *;go_wp2_with fail;rw[EA.o];go_wp2_with fail;go_roundw
    case rel=>exact⟨i+1,by omega,by go_num,SX.o,OX,FX⟩
    case measure=>simp[intOf];omega
   .rw[if_neg hp]at NJ;have SX:=xh S5;have HX:=xh NJ;clear S S5 NJ;go_wp2_with fail;go_roundw
    case rel=>exact⟨i+1,by omega,by go_num,by rw[HX.o];exact SX.o,O5,F⟩
    case measure=>simp[intOf];omega
  .obtain rfl:N=i:=by omega
   have Bs:=HL.o N;have KS:=xh (Up S (by omega));clear S;go_wp2_with fail;refine KS.o.mono ?_;rintro e w5 ⟨rfl,S5,o5⟩;have SX:=xh S5;have OX:=xh (O.o.trans (o5.aI O.o.size F.o));clear S5 o5;go_wp2_with fail;go_ret;exact⟨_,by first|rfl|simp,by have h:=SX.o;rw[HT.o]at h ⊢;exact h,OX.o⟩
theorem LC(h:ib w y n s):
  Calls prog 98 #[pp y.pb] w λe w'=>e=.returned (.tuple #[.int .i64 (s.l.length:Nat),.int .i64 ((CK s.l).length:Nat),.int .i64 ((s.l.countP λf=>decide (0<f.held)):Nat)])/\Below w.heap.size w w':=by
 have p1:w.cell? ⟨y.pb,1,none⟩=some (.slice (some ⟨y.fg,0,none⟩) s.l.length y.cp):=h.p1;obtain⟨N,hN⟩:∃N,s.l.length=N:=⟨_,rfl⟩;have HN:=xh hN;have HT:=xh (show((s.l.take N).countP λf=>decide (0<f.held))=(s.l.countP λf=>decide (0<f.held))from by rw[<-hN,fw]);have HL:=xh (show ∀i,((s.l.take i).countP λf=>decide (0<f.held))<=32 from λi=>by
  have h1:((s.l.take i).countP λf=>decide (0<f.held))<=(s.l.take i).length:=vd;have h2:=h.l2;rw[bm]at h1;omega)
 have HU:=xh (show ∀i f,s.l[i]?=some f->((s.l.take (i+1)).countP λf=>decide (0<f.held))=((s.l.take i).countP λf=>decide (0<f.held))+(if 0<f.held then 1 else 0)from λi f hf=>by
  obtain⟨hi,rfl⟩:=aS.1 hf;rw[gC hi,r7];simp[List.countP_cons])
 have Gh:N<=32:=by rw[<-hN];exact h.l2
 rw[hN]at p1 ⊢;have HF:=xh h.yy;have KP:=xh (λW (hb:Below w.heap.size w W)=>LB (h.below hb));have HP1:=xh (λW (hb:Below w.heap.size w W)=>(show W.cell? ⟨y.pb,1,none⟩=some (.slice (some ⟨y.fg,0,none⟩) N y.cp)from by rw[<-hN];exact(h.below hb).p1));clear h hN;unfold pp at *;go_enter func98,ntmps98;go_wp2_with fail
 go_loopw [5,7,15] (λkv _ iv wq=> ∃i:Nat,i<=N/\iv=.int .i64 i/\kv=.int .i64 (((s.l.take i).countP λf=>decide (0<f.held)):Nat)/\Hid (Below w.heap.size w wq)) (λ_ _ iv _=>N-(intOf iv).toNat)
 case atStart=>exact⟨0,aY _,rfl,rfl,xh (Below.refl _ _)⟩
 case round=>
  obtain⟨i,hi,rfl,rfl,O⟩:=hrel
  by_cases h':i<N
  .have hI:(i:Int)<(N:Int):=by omega
   obtain⟨f,HG⟩:∃f,Hid (s.l[i]?=some f):=⟨_,xh (aL (by rw[HN.o];exact h'))⟩;obtain⟨c0,c1,c2,c3,c4⟩:=(HF.o.below O.o) i f HG.o;have hm:=HL.o i;have NJ:=HU.o i f HG.o;have O5:=xh (ae O.o (.cells #[.int .i64 f.aq,.string f.fS,.int .i64 f.held,.bool f.cD,.bool f.used] 167));have d2:=(aJ.new wr 167 #[.int .i64 f.aq,.string f.fS,.int .i64 f.held,.bool f.cD,.bool f.used]).ab (i:=2) rfl;have HX:=xh NJ;clear NJ
   generalize hcn:((s.l.take i).countP λf=>decide (0<f.held))=cn at *;have ec:IntKind.i64.wrap ((cn:Int)+1)=((cn+1:Nat):Int):=IntWalk.i64_in _ (by omega)
   by_cases hp:0<f.held
   .go_wp2_with fail;go_roundw
    case rel=>exact⟨i+1,by omega,by go_num,by rw[HX.o,if_pos hp];try rfl,O5⟩
    case measure=>simp[intOf];omega
   .go_wp2_with fail;go_roundw
    case rel=>exact⟨i+1,by omega,by go_num,by rw[HX.o,if_neg hp];try rfl,O5⟩
    case measure=>simp[intOf];omega
  .obtain rfl:N=i:=by omega
   rw[HT.o];have OD:=xh O.o.drew;have q1:=HP1.o _ OD.o;have Q1:=xh q1;have hcn:=HL.o N;rw[HT.o]at hcn;generalize hcq:(s.l.countP λf=>decide (0<f.held))=cn at *;have HCQ:=xh hcq;clear hcq;go_wp2_with fail;refine wp_region_held_drew (S:=λW'=>W'.cell? ⟨y.pb,1,none⟩=some (.slice (some ⟨y.fg,0,none⟩) N y.cp)) (by kernel_rfl) (Q1.o) (λah=>?_);refine bM [(0,25),(1,26),(2,27),(3,28),(4,29),(5,30),(8,33)] ?_
   iterate 7 refine aG ?_
   refine bY 6 31 λK hK=>?_;go_simp
   go_at_call 146
   refine(KP.o _ OD.o).mono ?_;rintro e w5 ⟨v5,rfl,S5,nC⟩;obtain⟨V5,vc5,rfl⟩:=au S5;have O5:=xh (aB OD.o nC);have d1:=HP1.o _ O5.o;clear S5 nC;go_simp;refine aA hK (d1) (λah=>?_);refine bM [(7,32),(9,2),(10,3),(11,4)] ?_
   iterate 4 refine aG ?_
   refine wpAnyH_done (by kernel_rfl) ?_ _;go_wp2_with fail;refine bodyPost_ret (v:= .tuple #[.int .i64 (N:Nat),.int .i64 ((CK s.l).length:Nat),.int .i64 (cn:Nat)]) ?_ rfl ⟨by rw[HCQ.o],O5.o⟩;simp[results,Tryz.results98,go_sem]
end Sh
namespace Sh
open Go.RowKit Pk Dk Pg
attribute [local go_sem ↓] Go.wp_at_zero Go.wp_at_succ
variable{w:World}{y:Y}{n K i:Nat}{q:QS}
def ZTo(w w':World)(y:Y)(n:Nat)(q:QS)(K:Nat):Prop:= ∃y',y'.pb=y.pb/\y'.x.b=y.x.b/\y'.x.L=y.x.L/\ZP w' y' n q K/\ag y.fp w w'/\∀g∈y'.fp,g∈y.fp\/w.heap.size<=g
theorem ZTo.self{w':World}(h:ZP w' y n q K)(o:ag y.fp w w'):ZTo w w' y n q K:=⟨y,rfl,rfl,rfl,h,o,λ_ hg=> .inl hg⟩
theorem Qm(h:ZP w y n q K)(hb:Fb q.l K)(hK:K<=999999999999)(k:Nat)(hk:k<q.l.length):
  Calls prog 58 #[pp y.pb,.int .i64 (k:Nat)] w λe w'=>e=.returned (.int .i64 (q.eU (k:Nat)).2)/\ZP w' y n (q.eU (k:Nat)).1 (K+1)/\ag y.fp w w':=by
 have KB:=xh (λ(W:World) (hW:Below w.heap.size w W)=>zC (h.below hW) (by omega) k hk (λf hf=>(hb f hf).2.2));have rS:=(vP hb hk).2;obtain⟨c,A,z⟩:=h;have p1:w.cell? ⟨y.pb,1,none⟩=some (.slice (some ⟨y.fg,0,none⟩) q.l.length y.cp):=A.p1;have l2:q.l.length<=32:=A.l2;obtain⟨f,hf⟩:∃f,jO q.l k=f:=⟨_,rfl⟩;have yd:=km hk;rw[hf]at yd;obtain⟨c0,c1,c2,c3,c4⟩:=A.yy k f yd;have Kh:(k:Int)<(q.l.length:Int):=by omega
 have PF:¬(k:Int)<0:=by omega
 have KE:=xh l7;unfold Fr.nil Fr.agg at KE;have HS:=xh (show ZP w y n q (K+1)from⟨c,A,z.more (by omega)⟩);have hE:q.eU (k:Nat)=if f.aq<0 then(q,0)else if 0<f.held then(q,16)else if(q.bT k).2≠0 then q.bT k else({(q.bT k).1 with l:=(q.bT k).1.l.set k Fr.nil},0):=by
  unfold QS.eU;rw[show((k:Nat):Int).toNat=k by omega,hf,if_neg (by omega)]
 rw[hE];generalize q.bT k=BB at *;obtain⟨B,be⟩:=BB;dsimp only at KB rS ⊢;have OB:=xh (Below.refl w.heap.size w);clear hE A z hf yd hb
 by_cases h1:f.aq<0
 .rw[if_pos h1];clear rS;unfold pp at *;go_enter func58,ntmps58;go_wp2_with fail;go_ret;exact aE ⟨HS.o,ag.aj OB.o⟩
 rw[if_neg h1]
 by_cases h2:0<f.held
 .rw[if_pos h2];clear rS;unfold pp at *;go_enter func58,ntmps58;go_wp2_with fail;go_ret;exact aE ⟨HS.o,ag.aj OB.o⟩
 rw[if_neg h2]
 by_cases h3:be=0
 .subst h3;rw[if_neg (by simp)];have Gm:=xh rS;clear rS;unfold pp at *;go_enter func58,ntmps58;go_wp2_with fail;refine(KB.o _ OB.o).mono ?_;rintro e w5 ⟨rfl,⟨c5,A5,Z5⟩,o5⟩;obtain⟨N,hN⟩:∃N,B.l.length=N:=⟨_,rfl⟩;have tE:=xh hN;have hkN:k<N:=by rw[<-hN,Gm.o];exact hk
  have hNI:(k:Int)<(N:Int):=by omega
  have l3:N<=32:=by rw[<-hN];exact A5.l2
  obtain⟨g,HG⟩:∃g,Hid (B.l[k]?=some g):=⟨_,xh (aL (by omega))⟩;have AD:=xh A5.drew;have OD:=xh o5.drew;have Z5:=xh Z5;have P1D:=xh (show w5.drew.cell? ⟨y.pb,1,none⟩=some (.slice (some ⟨y.fg,0,none⟩) N y.cp)from by rw[<-hN];exact AD.o.p1);clear A5 o5 hN;go_wp2_with fail;refine wp_region_held_drew (S:=λW'=>W'.cell? ⟨y.pb,1,none⟩=some (.slice (some ⟨y.fg,0,none⟩) N y.cp)) (by kernel_rfl) (P1D.o) (λah=>?_)
  refine bM [(0,47),(1,48),(2,49),(3,50),(4,51)] ?_
  iterate 5 refine aG ?_
  refine bY 5 52 λK hK=>?_;go_simp
  go_at_call 86
  refine(KE.o _).mono ?_;rintro e w6 ⟨rfl,sA⟩;have A6:=xh (AD.o.below sA);have O6:=xh (OD.o.trans (ag.aj (S:=y.fp) sA));have p1y:w6.cell? ⟨y.pb,1,none⟩=some (.slice (some ⟨y.fg,0,none⟩) N y.cp):=by rw[<-tE.o];exact A6.o.p1
  clear sA;go_simp;refine aA hK (p1y) (λah=>?_);refine bM [(6,53)] ?_
  iterate 1 refine aG ?_
  refine dv 7 λK hK=>?_;go_simp;have p1x:w6.cell? ⟨y.pb,1,none⟩=some (.slice (some ⟨y.fg,0,none⟩) N y.cp):=by rw[<-tE.o];exact A6.o.p1
  obtain⟨c0,c1,c2,c3,c4⟩:=A6.o.yy k g HG.o;obtain⟨z0,z1,z2,z3,z4,B4,q4⟩:=A6.o.Kt k HG.o;have AZ:=xh B4;have OZ:=xh (O6.o.trans q4);clear B4 q4;go_simp;refine hK.o _ _ (by have h:=AZ.o.p1;rw[<-tE.o];simpa [QS.ps]using h) (λah=>?_)
  try simp only[Act.put,pa,pb,pc]
  refine wpAnyH_done (by kernel_rfl) ?_ _;go_wp2_with fail;go_ret;exact aE ⟨⟨c5,AZ.o,Z5.o⟩,OZ.o⟩
 .rw[if_pos h3];have hq:(be==0)=false:=by rw[beq_eq_false_iff_ne];exact h3
  have kt:(be != 0)=true:=by rw[bne_iff_ne];exact h3
  clear rS;unfold pp at *;go_enter func58,ntmps58;go_wp2_with fail;refine(KB.o _ OB.o).mono ?_;rintro e w5 ⟨rfl,z5,o5⟩;have Z5:=xh z5;have O5:=xh o5;clear z5 o5;go_wp2_with fail;go_ret;exact aE ⟨Z5.o,O5.o⟩
theorem LF(h:ZP w y n q K)(i:Int)(hi:i<0\/(q.l.length:Int)<=i):
  Calls prog 58 #[pp y.pb,.int .i64 i] w λe w'=>e=.returned (.int .i64 3)/\Below w.heap.size w w':=by
 obtain⟨c,A,z⟩:=h;have p1:w.cell? ⟨y.pb,1,none⟩=some (.slice (some ⟨y.fg,0,none⟩) q.l.length y.cp):=A.p1;have OB:=xh (Below.refl w.heap.size w);clear A z
 by_cases h0:i<0
 .clear hi;unfold pp at *;go_enter func58,ntmps58;go_wp2_with fail;go_ret;exact aE OB.o
 .have h1:(q.l.length:Int)<=i:=by omega
  clear hi;unfold pp at *;go_enter func58,ntmps58;go_wp2_with fail;go_ret;exact aE OB.o
theorem LG(h:ZP w y n q K)(hb:Fb q.l K)(hK:K<=999999999999)(i:Int):
  Calls prog 58 #[pp y.pb,.int .i64 i] w λe w'=>e=.returned (.int .i64 (q.eU i).2)/\ZP w' y n (q.eU i).1 (K+1)/\ag y.fp w w':=by
 by_cases hi:i<0\/(q.l.length:Int)<=i
 .unfold QS.eU;rw[if_pos hi];exact(LF h i hi).mono λe w' ⟨r,b⟩=>⟨r,(h.below b).more (by omega),.aj b⟩
 .obtain⟨k,rfl⟩:=eT (show 0<=i by omega);exact Qm h hb hK k (by omega)
def lu(l:List Fr)(i:Nat):List Fr:=List.replicate i Fr.nil++l.drop i
theorem Qn(l:List Fr)(h:i<=l.length):(lu l i).length=l.length:=by unfold lu;simp;omega
theorem Qo(l:List Fr)(h:i<l.length):(lu l i).set i Fr.nil=lu l (i+1):=by
 unfold lu;rw[qN _ _ (by simp),ez,fy,sg h,List.set_cons_zero,qM,cr];rfl
theorem Hr(h:ZP w y n q K):
  Calls prog 51 #[pp y.pb] w λe w'=>e=.returned (.bool true)/\ZTo w w' y n q.cq K:=by
 obtain⟨c,A,z⟩:=h;have p1:w.cell? ⟨y.pb,1,none⟩=some (.slice (some ⟨y.fg,0,none⟩) q.l.length y.cp):=A.p1;have l2:q.l.length<=32:=A.l2;obtain⟨N,hN⟩:∃N,q.l.length=N:=⟨_,rfl⟩;have HN:=xh hN;rw[hN]at p1 l2;have KE:=xh l7;unfold Fr.nil Fr.agg at KE;have HST:=xh (show ∀i,i<N->(lu q.l i).set i Fr.nil=lu q.l (i+1)from λi hi=>Qo q.l (by omega));have HLE:=xh (show ∀i,i<=N->(lu q.l i).length=N from λi hi=>by rw[Qn q.l (by omega)];exact hN)
 have HEND:=xh (show lu q.l N=List.replicate q.l.length Fr.nil from by unfold lu;rw[hN,DX (by omega),iJ]);have H0:=xh (show ib w y n (({q with l:=lu q.l 0}:QS).ps c)from A);have KA:=xh (λ(W:World) (B:ib W y n (({q with l:=lu q.l N}:QS).ps c))=>Lq B.hs z)
 have HZ:=xh (show ∀(w1 w2:World) (c':C) (B:ib w1 y n (({q with l:=lu q.l N}:QS).ps c)) (o:ag y.fp w w1) (p:yb w1 w2 y.x n c') (z':Zc c' n {q.a with now:=iT q.a.bX} K),ZTo w w2 y n q.cq K from λw1 w2 c' B o p z'=>by
  obtain⟨y',e1,_,_,e2,e3,B',o',f'⟩:=B.store p;refine⟨y',e1,e2,e3,⟨c',?_,z'⟩,o.trans o',λg hg=>(f' g hg).imp id (λh=>ar o.size h)⟩;have hE:(q.cq).ps c'={(({q with l:=lu q.l N}:QS).ps c)with c:=c'}:=by
   unfold QS.cq QS.ps;dsimp only;rw[HEND.o]
  rw[hE];exact B')
 clear A z hN;unfold pp sp at *;go_enter func51,ntmps51;go_wp2_with fail
 go_loopw [3,11] (λ_ iv wr=> ∃i:Nat,i<=N/\iv=.int .i64 i/\Hid (ib wr y n (({q with l:=lu q.l i}:QS).ps c))/\Hid (ag y.fp w wr)) (λ_ iv _=>N-(intOf iv).toNat)
 case atStart=>exact⟨0,aY _,rfl,H0,xh (ag.refl _ _)⟩
 case round=>
  obtain⟨i,hi,rfl,AI,OI⟩:=hrel
  by_cases h':i<N
  .have hI:(i:Int)<(N:Int):=by omega
   have tE:=xh (HLE.o i hi);obtain⟨g,HG⟩:∃g,Hid ((lu q.l i)[i]?=some g):=⟨_,xh (aL (by rw[tE.o];exact h'))⟩;have AD:=xh AI.o.drew;have OD:=xh OI.o.drew;have P1D:=xh (show wr.drew.cell? ⟨y.pb,1,none⟩=some (.slice (some ⟨y.fg,0,none⟩) N y.cp)from by rw[<-tE.o];exact AD.o.p1);have HS1:=xh (HST.o i h');go_wp2_with fail
   refine wp_region_held_drew (S:=λW'=>W'.cell? ⟨y.pb,1,none⟩=some (.slice (some ⟨y.fg,0,none⟩) N y.cp)) (by kernel_rfl) (P1D.o) (λah=>?_);refine bM [(0,14),(1,15),(2,16),(3,17),(4,18)] ?_
   iterate 5 refine aG ?_
   refine bY 5 19 λK hK=>?_;go_simp
   go_at_call 86
   refine(KE.o _).mono ?_;rintro e w6 ⟨rfl,sA⟩;have A6:=xh (AD.o.below sA);have O6:=xh (OD.o.trans (ag.aj (S:=y.fp) sA));have p1y:w6.cell? ⟨y.pb,1,none⟩=some (.slice (some ⟨y.fg,0,none⟩) N y.cp):=by rw[<-tE.o];exact A6.o.p1
   clear sA;go_simp;refine aA hK (p1y) (λah=>?_);refine bM [(6,20)] ?_
   iterate 1 refine aG ?_
   refine dv 7 λK hK=>?_;go_simp;have p1x:w6.cell? ⟨y.pb,1,none⟩=some (.slice (some ⟨y.fg,0,none⟩) N y.cp):=by rw[<-tE.o];exact A6.o.p1
   obtain⟨c0,c1,c2,c3,c4⟩:=A6.o.yy i g HG.o;obtain⟨z0,z1,z2,z3,z4,B4,q4⟩:=A6.o.Kt i HG.o;have AZ:=xh B4;have OZ:=xh (O6.o.trans q4);clear B4 q4;go_simp;refine hK.o _ _ (by have h:=AZ.o.p1;rw[<-tE.o];simpa [QS.ps,tE.o]using h) (λah=>?_)
   try simp only[Act.put,pa,pb,pc]
   refine wpAnyH_done (by kernel_rfl) ?_ _;have A9:=xh (show ib _ y n (({q with l:=lu q.l (i+1)}:QS).ps c)from by rw[<-HS1.o];exact AZ.o);go_wp2_with fail;go_roundw
   case rel=>exact⟨i+1,by omega,by go_num,A9,OZ⟩
   case measure=>simp[intOf];omega
  .obtain rfl:N=i:=by omega
   have q0:=AI.o.p0;go_wp2_with fail;refine(KA.o _ AI.o).mono ?_;rintro e w5 ⟨rfl,c5,p5,z5⟩;have HF:=xh (HZ.o _ _ _ AI.o OI.o p5 z5);clear p5 z5;go_wp2_with fail;go_ret;exact aE HF.o
theorem Fq(h:Fb q.l K):∀i,i<=q.l.length->Fb (q.bn i).1.l K/\(q.bn i).1.l.length=q.l.length
 |0,_=>⟨h,rfl⟩
 |i+1,hi=>by
  obtain⟨h1,h2⟩:=Fq h i (by omega);unfold QS.bn
  split
  .exact⟨h1,h2⟩
  .obtain⟨h3,h4⟩:=vP (k:=i) h1 (by omega);exact⟨h3,by rw[h4,h2]⟩
theorem LH(q:QS)(i:Nat):q.bn (i+1)=if(q.bn i).2≠0 then q.bn i else(q.bn i).1.bT i:=rfl
theorem zL(q:QS)(h:(q.bn i).2≠0):∀k,q.bn (i+k)=q.bn i
 |0=>rfl
 |k+1=>by
  show q.bn ((i+k)+1)=_;rw[LH,zL q h k,if_pos h]
theorem Fs(h:ZP w y n q K)(hb:Fb q.l K)(hK:K<=999999999000):
  Calls prog 50 #[pp y.pb] w λe w'=>e=.returned (.int .i64 q.aK.2)/\ZTo w w' y n q.aK.1 (K+40):=by
 obtain⟨c,A,z⟩:=h;have l2:q.l.length<=32:=A.l2;have KC:=xh (LC A);rw[show(q.ps c).l=q.l from rfl]at KC;obtain⟨N,hN⟩:∃N,q.l.length=N:=⟨_,rfl⟩;have HN:=xh hN;have HP1:=xh (show ∀W,Below w.heap.size w W->W.cell? ⟨y.pb,1,none⟩=some (.slice (some ⟨y.fg,0,none⟩) N y.cp)from λW hW=>by rw[<-hN];exact(A.below hW).p1);have H0:=xh (λW (hW:Below w.heap.size w W)=>(show ZP W y n (q.bn 0).1 (K+0)from⟨c,A.below hW,z⟩))
 have KB:=xh (λ(i:Nat) (hi:i<N) (W:World) (hW:ZP W y n (q.bn i).1 (K+i))=>zC hW (by omega) i (by rw[(Fq hb i (by omega)).2];omega) (λf hf=>((Fq hb i (by omega)).1 f hf).2.2));have HSU:=xh (show ∀i,(q.bn i).2=0->q.bn (i+1)=(q.bn i).1.bT i from λi h0=>by
  show(if(q.bn i).2≠0 then q.bn i else(q.bn i).1.bT i)=_;rw[if_neg (by simpa using h0)])
 have HBAD:=xh (show ∀i,i<=N->(q.bn i).2≠0->q.ur=0->q.aK=q.bn i from λi hi ff h0=>by
  have h1:=zL q ff (N-i);rw[show i+(N-i)=N by omega]at h1;unfold QS.aK;rw[h0,if_neg (by omega),hN,h1,if_pos ff])
 have HEND:=xh (show(q.bn N).2=0->q.ur=0->q.aK=({(q.bn N).1 with a:=(q.bn N).1.a.aK.1},(q.bn N).1.a.aK.2)from λh1 h0=>by
  unfold QS.aK;rw[h0,if_neg (by omega),hN,if_neg (by rw[h1];simp)])
 have HHE:=xh (show 0<q.ur->q.aK=(q,16)from λh0=>by
  unfold QS.aK;rw[if_pos h0])
 have HZQ:=xh (show ∀W,Below w.heap.size w W->ZTo w W y n q (K+40)from λW hW=> .self ((show ZP W y n q K from⟨c,A.below hW,z⟩).more (by omega)) (.aj hW));have KS:=xh (λ(W:World) (c1:C) (a:St) (K1:Nat) (x:X) (B:At W x n c1) (z1:Zc c1 n a K1) (hK1:K1<=1000000000000)=>Hg B z1 hK1);rw[hN]at l2 KC;have Ur:(q.l.countP λf=>decide (0<f.held))=q.ur:=rfl;rw[Ur]at KC;clear Ur A z hN;unfold pp sp at *;go_enter func50,ntmps50;go_wp2_with fail
 refine KC.o.mono ?_;rintro e w1 ⟨rfl,bf⟩;have O1:=xh bf;clear bf;obtain⟨hn,hhn⟩:∃hn,q.ur=hn:=⟨_,rfl⟩;have HHN:=xh hhn;rw[hhn];clear hhn
 by_cases h0:0<hn
 .have h0I:(0:Int)<(hn:Int):=by omega
  have HR:=xh (HHE.o (by rw[HHN.o];exact h0));go_wp2_with fail;go_ret;exact⟨by rw[HR.o];rfl,by rw[HR.o];exact HZQ.o _ O1.o⟩
 .have h0I:¬(0:Int)<(hn:Int):=by omega
  have HH0:=xh (show q.ur=0 by rw[HHN.o];omega);have p1:=HP1.o _ O1.o;go_wp2_with fail
  go_loopw [6,7,23] (λ_ _ iv wr=> ∃i:Nat,i<=N/\iv=.int .i64 i/\Hid (ZP wr y n (q.bn i).1 (K+i))/\Hid ((q.bn i).2=0)/\Hid (ag y.fp w wr)) (λ_ _ iv _=>N-(intOf iv).toNat)
  case atStart=>exact⟨0,aY _,rfl,xh (H0.o _ O1.o),xh rfl,xh (ag.aj O1.o)⟩
  case round=>
   obtain⟨i,hi,rfl,ZI,E0,OI⟩:=hrel
   by_cases h':i<N
   .have hI:(i:Int)<(N:Int):=by omega
    have KB1:=xh (KB.o i h' wr ZI.o);have HS1:=xh (HSU.o i E0.o);have GR:=xh (HBAD.o (i+1) (by omega));rw[<-HS1.o]at KB1;obtain⟨R,HR⟩:∃R,Hid (q.bn (i+1)=R):=⟨_,xh rfl⟩;rw[HR.o]at KB1 GR
    by_cases hr:R.2=0
    .rw[hr]at KB1;go_wp2_with fail;refine KB1.o.mono ?_;rintro e w5 ⟨rfl,z5,o5⟩;have Z5:=xh (show ZP w5 y n (q.bn (i+1)).1 (K+(i+1))from by rw[HR.o];exact z5);have E5:=xh (show(q.bn (i+1)).2=0 from by rw[HR.o];exact hr);have O5:=xh (OI.o.trans o5);clear z5 o5;go_wp2_with fail;go_roundw
     case rel=>exact⟨i+1,by omega,by go_num,Z5,E5,O5⟩
     case measure=>simp[intOf];omega
    .have hq:(R.2==0)=false:=by rw[beq_eq_false_iff_ne];exact hr
     have kt:(R.2 != 0)=true:=by rw[bne_iff_ne];exact hr
     have HC:=xh (GR.o hr HH0.o);go_wp2_with fail;refine KB1.o.mono ?_;rintro e w5 ⟨rfl,z5,o5⟩;have Z5:=xh z5;have O5:=xh (OI.o.trans o5);clear z5 o5;go_wp2_with fail;go_ret;exact⟨by rw[HC.o];rfl,by rw[HC.o];exact .self (Z5.o.more (by omega)) O5.o⟩
   .obtain rfl:N=i:=by omega
    obtain⟨c5,A5,Z5⟩:=ZI.o;have q0:=A5.p0;have KS5:=xh (KS.o _ _ _ _ _ A5.hs Z5 (by omega));have HE:=xh (HEND.o E0.o HH0.o);have A5:=xh A5;clear Z5;unfold sp at *;go_wp2_with fail;refine KS5.o.mono ?_;rintro e w6 ⟨rfl,c6,p6,z6⟩;have HF:=xh (show ZTo w w6 y n ({(q.bn N).1 with a:=(q.bn N).1.a.aK.1}) (K+40)from by
     obtain⟨y',e1,_,_,e2,e3,B',o',f'⟩:=A5.o.store p6;exact⟨y',e1,e2,e3,⟨c6,B',z6.more (by omega)⟩,OI.o.trans o',λg hg=>(f' g hg).imp id (λh=>ar OI.o.size h)⟩)
    clear p6 z6;go_wp2_with fail;go_ret;exact⟨by rw[HE.o];rfl,by rw[HE.o];exact HF.o⟩
theorem Qp(h:ZP w y n q K)(hK:K<=1000000000000)(v:ByteArray)(hs:v.size<=9223372036854775807):
  Calls prog 69 #[pp y.pb,.string v] w λe w'=>e=.returned (.tuple #[.int .i64 (q.bV v.data.toList).2.1,.int .i64 (q.bV v.data.toList).2.2])/\ZTo w w' y n (q.bV v.data.toList).1 (K+1):=by
 obtain⟨c,A,z⟩:=h;have zn:=z.new v.data.toList;have hp:=PH A v hs (z.ep0 hK) (by have:=(z.calls hK).1;show c.d.calls<=_;omega) (z.calls hK).2;rw[show(q.ps c).c=c from rfl,zn.2]at hp;refine hp.mono λe w' ⟨r,y',e1,_,_,e2,e3,B',o',f'⟩=>⟨r,y',e1,e2,e3,⟨_,B',zn.1⟩,o',f'⟩
theorem LJ(h:ZP w y n q K)(hb:Fb q.l K)(p:Int):
  Calls prog 132 #[pp y.pb,.int .i64 p] w λe w'=>e=.returned (.int .i64 (q.aV p).2)/\ZP w' y n (q.aV p).1 K/\ag y.fp w w':=by
 obtain⟨c,A,z⟩:=h;have zd:=z.drop p;unfold QS.aV
 rcases gM q.l p with e|⟨k,f,e,hf,_,_⟩
 .rw[e,if_neg (by omega)];have hd:=PL A p e;rw[show(q.ps c).c=c from rfl,zd.2]at hd
  by_cases h0:(q.a.aV p).2=0
  .rw[if_neg (by simpa using h0),if_neg (by omega)];refine hd.mono λe w' ⟨r,A',o⟩=>⟨by rw[r,h0],⟨_,A',zd.1⟩,o⟩
  .rw[if_pos h0];refine hd.mono λe w' ⟨r,A',o⟩=>⟨r,⟨_,A',zd.1⟩,o⟩
 .rw[e,show((k:Nat):Int).toNat=k by omega,nt hf];have hm:=hb f (ay hf)
  by_cases hh:0<f.held
  .rw[if_pos ⟨by omega,hh⟩];exact(Ks A p k e hf hh).mono λe w' ⟨r,b⟩=>⟨r,⟨c,A.below b,z⟩,.aj b⟩
  .rw[if_neg (λh=>hh h.2)];have hd:=Tp A p k e hf (by omega);rw[show(q.ps c).c=c from rfl,zd.2]at hd
   by_cases h0:(q.a.aV p).2=0
   .rw[if_neg (by simpa using h0),if_pos (by omega)];rw[if_pos h0]at hd;refine hd.mono λe w' ⟨r,A',o⟩=>⟨by rw[r,h0],⟨_,A',zd.1⟩,o⟩
   .rw[if_pos h0];rw[if_neg h0]at hd;refine hd.mono λe w' ⟨r,A',o⟩=>⟨r,⟨_,A',zd.1⟩,o⟩
end Sh
namespace Sh
open Go.RowKit Pk Dk Pg
variable{w:World}{n g K K':Nat}{t:TypeId}{cs:Array Value}{y:Y}{q:QS}
theorem At.alien2{x:X}{c:C}(h:At w x n c)(B:aJ w g t cs)(h1:t≠146)(h2:t≠218)(h3:t≠3)(h4:t≠149)(h5:t≠152)(h6:t≠4)(h7:t≠231):g∉x.fp:=by
 intro hg;simp only[X.fp,an,aC]at hg;have hs:∀{v:Value} {k:Nat} {l:List Value},Sl w 3 v k l->g∉cw v:=λS hg=>by
  obtain⟨cs',B'⟩:=vC S _ hg;exact B.k7 B' h3 rfl
 rcases hg with rfl|rfl|rfl|((hg|hg)|hg)|hg
 .exact B.k7 h.hb h1 rfl
 .exact B.k7 h.hm.hb h2 rfl
 .exact B.k7 h.hm.hg h3 rfl
 .simp only[Loc.fp,an,gX,or_false]at hg
  rcases hg with rfl|rfl|rfl|rfl
  .exact B.k7 h.hd.hb h4 rfl
  .exact B.k7 h.hd.hN h5 rfl
  .exact B.k7 h.hd.hO h5 rfl
  .exact B.k7 h.hd.hL h6 rfl
 .exact hs h.ht hg
 .exact hs h.ho hg
 .exact h.hp.aW B h3 h7 hg
theorem ib.iV{s:PS}(h:ib w y n s)(B:aJ w g t cs)(ha:t≠143)(hb:t≠167)(h1:t≠146)(h2:t≠218)(h3:t≠3)(h4:t≠149)(h5:t≠152)(h6:t≠4)(h7:t≠231):g∉y.fp:=by
 intro hg;simp only[Y.fp,an]at hg
 rcases hg with rfl|rfl|hg
 .exact B.k7 h.hp ha rfl
 .exact cU h.hf B (by exact hb) (by simp[ai])
 .exact h.hs.alien2 B h1 h2 h3 h4 h5 h6 h7 hg
theorem Us(h:ZP w y n q K)(H:Hq q n K)(hK:K<=999999999999)(p:Int):
  Calls prog 121 #[pp y.pb,.int .i64 p] w λe w'=>e=.returned (.tuple #[.string (q.dK p).2.1,.int .i64 (q.dK p).2.2])/\ZP w' y n (q.dK p).1 (K+1)/\ag y.fp w w':=by
 unfold QS.dK
 by_cases h0:(q.bh p).2.2=0
 .rw[if_neg (by simpa using h0)];exact Qh h H.f hK H.full p h0
 .rw[if_pos h0];exact Ud h H.f hK p h0
theorem Ut(h:ZP w y n q K)(H:Hq q n K)(hK:K<=999999999999)(p:Int)(b:ByteArray):
  Calls prog 176 #[pp y.pb,.int .i64 p,.string b] w λe w'=>e=.returned (.int .i64 (q.dM p b).2)/\ZP w' y n (q.dM p b).1 (K+1)/\ag y.fp w w':=by
 unfold QS.dM
 by_cases hb:232<b.size
 .rw[if_pos hb];exact(Uf p b hb).mono λe w' ⟨r,o⟩=>⟨r,(h.below o).more (by omega),.aj o⟩
 rw[if_neg hb]
 by_cases h0:(q.bh p).2.2=0
 .rw[if_neg (by simpa using h0)];have hp:=Qi h H.f hK H.full p b (by omega) h0;rw[Um H p b (by omega) h0]at hp;exact hp
 .rw[if_pos h0];exact Ue h H.f hK H.full p b (by omega) h0
structure Ix where
 pb:Nat
 sb:Nat
 L:Dk.Loc
def PQ(w:World)(I:Ix)(F:List Nat)(q:QS)(n K:Nat):Prop:= ∃y,y.pb=I.pb/\y.x.b=I.sb/\y.x.L=I.L/\y.fp=F/\ZP w y n q K/\Wp q n K
def PT(w w':World)(I:Ix)(F:List Nat)(q:QS)(n K:Nat):Prop:= ∃F',PQ w' I F' q n K/\ag F w w'/\∀g∈F',g∈F\/w.heap.size<=g
section
variable{w w':World}{I:Ix}{F S:List Nat}{q:QS}{n K:Nat}
theorem PQ.wp(h:PQ w I F q n K):Wp q n K:=by
 obtain⟨y,_,_,_,_,_,W⟩:=h;exact W
theorem PQ.only(h:PQ w I F q n K)(o:ag S w w')(hd:∀g∈F,g∉S):PQ w' I F q n K:=by
 obtain⟨y,e1,e2,e3,rfl,⟨c,A,z⟩,W⟩:=h;exact⟨y,e1,e2,e3,rfl,⟨c,A.only o hd,z⟩,W⟩
theorem PQ.below(h:PQ w I F q n K)(hb:Below w.heap.size w w'):PQ w' I F q n K:=h.only (S:=[]) (.aj hb) (by simp)
theorem PQ.drew(h:PQ w I F q n K):PQ w.drew I F q n K:=h.below (Below.refl _ _).drew
theorem PQ.lt(h:PQ w I F q n K):∀g∈F,g<w.heap.size:=by
 obtain⟨y,_,_,_,rfl,⟨c,A,z⟩,_⟩:=h;exact A.lt
theorem PQ.le(h:PQ w I F q n K)(hk:K<=K'):PQ w I F q n K':=by
 obtain⟨y,e1,e2,e3,e4,⟨c,A,z⟩,W⟩:=h;exact⟨y,e1,e2,e3,e4,⟨c,A,z.more hk⟩,W.more hk⟩
theorem PQ.aW{b:Nat}(h:PQ w I F q n K)(o:ag [b] w w')(hb:b∉F):PQ w' I F q n K:=h.only o (λg hg hm=>hb (by rw[<-aQ.1 hm];exact hg))
theorem PQ.iV(h:PQ w I F q n K)(B:aJ w g t cs)(ha:t≠143:=by decide)(hb:t≠167:=by decide)(h1:t≠146:=by decide)(h2:t≠218:=by decide)(h3:t≠3:=by decide)(h4:t≠149:=by decide)(h5:t≠152:=by decide)(h6:t≠4:=by decide)(h7:t≠231:=by decide):g∉F:=by
 obtain⟨y,_,_,_,rfl,⟨c,A,z⟩,_⟩:=h;exact A.iV B ha hb h1 h2 h3 h4 h5 h6 h7
theorem PT.self(h:PQ w' I F q n K)(o:ag F w w'):PT w w' I F q n K:=⟨F,h,o,λ_ hg=> .inl hg⟩
theorem PT.le(h:PT w w' I F q n K)(hk:K<=K'):PT w w' I F q n K':=by
 obtain⟨F',a,b⟩:=h;exact⟨F',a.le hk,b⟩
theorem ZTo.pt{q':QS}(h:ZTo w w' y n q' K')(W:Wp q' n K'):PT w w' ⟨y.pb,y.x.b,y.x.L⟩ y.fp q' n K':=by
 obtain⟨y',e1,e2,e3,z,o,f⟩:=h;exact⟨y'.fp,⟨y',e1,e2,e3,rfl,z,W⟩,o,f⟩
theorem uy(h:PQ w I F q n K)(hK:K<=999999999999)(p:Int):
  Calls prog 121 #[pp I.pb,.int .i64 p] w λe w'=>e=.returned (.tuple #[.string (q.dK p).2.1,.int .i64 (q.dK p).2.2])/\PQ w' I F (q.dK p).1 n (K+1)/\ag F w w':=by
 obtain⟨y,e1,e2,e3,rfl,z,W⟩:=h;have hw:=(W.get p).1.w;rw[<-e1];exact(Us z W.H hK p).mono λe w' ⟨r,z',o⟩=>⟨r,⟨y,e1,e2,e3,rfl,z',hw⟩,o⟩
theorem Uu(h:PQ w I F q n K)(hK:K<=999999999999)(p:Int)(b:ByteArray)(hb:b.size<=232):
  Calls prog 176 #[pp I.pb,.int .i64 p,.string b] w λe w'=>e=.returned (.int .i64 (q.dM p b).2)/\PQ w' I F (q.dM p b).1 n (K+1)/\ag F w w':=by
 obtain⟨y,e1,e2,e3,rfl,z,W⟩:=h;have hw:=(W.put p b hb).1.w;rw[<-e1];exact(Ut z W.H hK p b).mono λe w' ⟨r,z',o⟩=>⟨r,⟨y,e1,e2,e3,rfl,z',hw⟩,o⟩
theorem zM(h:PQ w I F q n K)(hK:K<=1000000000000)(v:ByteArray)(hv:v.size<=232):
  Calls prog 69 #[pp I.pb,.string v] w λe w'=>e=.returned (.tuple #[.int .i64 (q.bV v.data.toList).2.1,.int .i64 (q.bV v.data.toList).2.2])/\PT w w' I F (q.bV v.data.toList).1 n (K+1):=by
 obtain⟨y,e1,e2,e3,rfl,z,W⟩:=h;have hw:=(W.new v hv).1.w;obtain⟨_,_,_⟩:=I;subst e1 e2 e3;exact(Qp z hK v (by omega)).mono λe w' ⟨r,t⟩=>⟨r,t.pt hw⟩
theorem ra(h:PQ w I F q n K)(p:Int):
  Calls prog 132 #[pp I.pb,.int .i64 p] w λe w'=>e=.returned (.int .i64 (q.aV p).2)/\PQ w' I F (q.aV p).1 n K/\ag F w w':=by
 obtain⟨y,e1,e2,e3,rfl,z,W⟩:=h;have hw:=(W.drop p).1.w;rw[<-e1];exact(LJ z W.H.f p).mono λe w' ⟨r,z',o⟩=>⟨r,⟨y,e1,e2,e3,rfl,z',hw⟩,o⟩
theorem LL(h:PQ w I F q n K)(hK:K<=999999999999)(i:Int):
  Calls prog 58 #[pp I.pb,.int .i64 i] w λe w'=>e=.returned (.int .i64 (q.eU i).2)/\PQ w' I F (q.eU i).1 n (K+1)/\ag F w w':=by
 obtain⟨y,e1,e2,e3,rfl,z,W⟩:=h;have hw:=(W.xr i).1.w;rw[<-e1];exact(LG z W.H.f hK i).mono λe w' ⟨r,z',o⟩=>⟨r,⟨y,e1,e2,e3,rfl,z',hw⟩,o⟩
theorem xu(h:PQ w I F q n K)(hK:K<=999999999000):
  Calls prog 50 #[pp I.pb] w λe w'=>e=.returned (.int .i64 q.aK.2)/\PT w w' I F q.aK.1 n (K+40):=by
 obtain⟨y,e1,e2,e3,rfl,z,W⟩:=h;have hw:=(W.ko hK).1;obtain⟨_,_,_⟩:=I;subst e1 e2 e3;exact(Fs z W.H.f hK).mono λe w' ⟨r,t⟩=>⟨r,t.pt hw⟩
theorem LM(h:PQ w I F q n K):
  Calls prog 51 #[pp I.pb] w λe w'=>e=.returned (.bool true)/\PT w w' I F q.cq n K:=by
 obtain⟨y,e1,e2,e3,rfl,z,W⟩:=h;have hw:=W.abort.1;obtain⟨_,_,_⟩:=I;subst e1 e2 e3;exact(Hr z).mono λe w' ⟨r,t⟩=>⟨r,t.pt hw⟩
theorem LP(h:PQ w I F q n K):Calls prog 28 #[pp I.pb] w λe w'=>e=.returned (sp I.sb)/\w=w':=by
 obtain⟨y,e1,e2,e3,rfl,⟨c,A,z⟩,W⟩:=h;rw[<-e1,<-e2];exact Kp A
theorem LQ(h:PQ w I F q n K):
  Calls prog 29 #[sp I.sb] w λe w'=> ∃A cc,e=.returned (.slice A q.a.lr.length cc)/\aT w' 3 1 (.slice A q.a.lr.length cc) q.a.lr.length (dm q.a.lr)/\Below w.heap.size w w':=by
 obtain⟨y,e1,e2,e3,rfl,⟨c,A,z⟩,W⟩:=h;rw[<-e2];obtain⟨k,e⟩:=z.e;have hp:yc c.table c.table.length=q.a.lr:=by
  rw[NA (n:=n) _ (ak _),e];have:=pad_pgs (c.bR n).now k;unfold St.lr St.pad C.bR at *;simp only[aU,ez,fo]at *;exact this.symm
 have:=Ki A.hs;rw[show(q.ps c).c=c from rfl,hp]at this;exact this
end
end Sh
end Go.Proofs.YtmonobkginiajaaGreat
