/- packed. -/
import Derived.Shelf.Sort.Plain
import Derived.Shelf.Slices.In.SortNone
import Derived.Sort.OwnSortedInts
import Derived.Test.YtmonobkginiajaaGreatBs5
set_option linter.all false
set_option maxRecDepth 100000
set_option maxHeartbeats 8000000
namespace Go.Proofs.YtmonobkginiajaaGreat
open Go.Proofs.Tryz
namespace Sh
open Go.RowKit Pk Dk Pg
structure Zc(c:C)(n:Nat)(a:St)(K:Nat):Prop where
 g:Good c n
 R:iG c.d n c.ep c.slot c.bQ c.parts
 e:∃k,a=(c.bP n).pad k
 bc:c.d.calls<=40*K
 be:c.ep<=K
section
variable{c:C}{n:Nat}{a:St}{K:Nat}
theorem Zc.more(z:Zc c n a K){K':Nat}(h:K<=K'):Zc c n a K':=⟨z.g,z.R,z.e,by have:=z.bc;omega,by have:=z.be;omega⟩
theorem Zc.read(z:Zc c n a K)(l:Int):c.aK n l=a.aK l:=by
 obtain⟨k,e⟩:=z.e;rw[vD z.g,e];unfold St.aK;rw[Lr]
theorem Zc.ep0(z:Zc c n a K)(hK:K<=1000000000000):0<=c.ep/\c.ep<=1099511627776:=by have:=z.g.ep;omega
theorem Zc.calls(z:Zc c n a K)(hK:K<=1000000000000):c.d.calls<=3999999999999999900/\c.d.bn<=9223372036854775807:=by
 have:=z.bc;have:=z.g.arm
 constructor<;>omega
theorem Zc.tab(z:Zc c n a K)(k:Nat):c.table.getD k 0<=1024:=by
 have hm:c.m.length<=1024:=by rw[z.g.ml];unfold eY;omega
 by_cases hk:k<c.table.length
 .simp only[List.getD,aG hk,iM];have:=z.g.ti _ (kt hk);omega
 .simp only[List.getD];rw[fG (by omega)];show(0:Int)<=1024;omega
theorem Zc.new(z:Zc c n a K)(p:List UInt8):Zc (c.bJ n p).1 n (a.bJ p).1 (K+1)/\(c.bJ n p).2=(a.bJ p).2:=by
 obtain⟨k,ek⟩:=z.e;obtain⟨k',ep⟩:=pad_new (c.bP n) k p;rw[<-ek]at ep;obtain⟨g1,g2,g3,g4,g5,g6⟩:=TZ z.g p;have pZ:=Lo c n p;exact⟨⟨g1,by rw[pZ.1,pZ.2.1,pZ.2.2.1,pZ.2.2.2.1];exact Ln z.g z.R _,⟨k',by rw[ep,g2]⟩,by have:=z.bc;omega,by rw[pZ.2.2.1];have:=z.be;omega⟩,by rw[ep];exact g3⟩
theorem Zc.write(z:Zc c n a K)(l:Int)(p:List UInt8):Zc (c.aA n l p).1 n (a.aA l p).1 (K+1)/\(c.aA n l p).2=(a.aA l p).2:=by
 obtain⟨k,ek⟩:=z.e;have ep:=Qq (c.bP n) k l p;rw[<-ek]at ep;obtain⟨g1,g2,g3,g4⟩:=Lj z.g l p;have pZ:=Ft c n l p;exact⟨⟨g1,by rw[pZ.1,pZ.2.1,pZ.2.2.1,pZ.2.2.2.1];exact Fs z.g z.R _ _,⟨k,by rw[ep,g2]⟩,by have:=z.bc;omega,by rw[pZ.2.2.1];have:=z.be;omega⟩,by rw[ep];exact g3⟩
theorem Zc.drop(z:Zc c n a K)(l:Int):Zc (c.aR l).1 n (a.aR l).1 K/\(c.aR l).2=(a.aR l).2:=by
 obtain⟨k,ek⟩:=z.e;have ep:=Ur (c.bP n) k l;rw[<-ek]at ep;obtain⟨g1,g2,g3,g4,g5,g6⟩:=Qd z.g l;have pZ:(c.aR l).1.ep=c.ep/\(c.aR l).1.slot=c.slot:=by
  unfold C.aR
  split<;>exact⟨rfl,rfl⟩
 exact⟨⟨g1,by rw[g4,g5,g6,pZ.1,pZ.2];exact z.R,⟨k,by rw[ep,g2]⟩,by rw[g4];exact z.bc,by rw[pZ.1];exact z.be⟩,by rw[ep];exact g3⟩
theorem Zc.abort(z:Zc c n a K):Zc c.bY n {a with now:=gl a.bQ} K:=by
 obtain⟨k,ek⟩:=z.e;obtain⟨g1,g2,g3⟩:=Lh z.g;exact⟨g1,by show iG c.d n c.ep c.slot c.bQ c.parts;exact z.R,⟨0,by rw[pX,g2,ek];rfl⟩,z.bc,z.be⟩
theorem Zc.bQ(z:Zc c n a K):c.bQ.length<=512:=by have:=z.R.ro.2.2.2.1;omega
theorem Zc.j0(z:Zc c n a K)(tl:c.table.length<=512)(hK:K<=1000000000000):Zc (c.aE n).1 n a.aE.1 (K+1)/\(c.aE n).2=a.aE.2:=by
 obtain⟨k,ek⟩:=z.e;have hbe:=z.be;have hae2:a.free=(c.bP n).free:=by rw[ek,zO]
 have N8:a.dH=(c.bP n).dH:=by rw[ek,Us]
 by_cases hf:(c.bP n).free<cB (c.bP n).dH.length
 .rw[Hp z.g hf,show a.aE=(a,11) by unfold St.aE;rw[hae2,N8,if_pos hf]];obtain⟨t1,t2⟩:=CU z.g;exact⟨⟨t1,by show iG c.d n c.ep c.slot c.bQ c.parts;exact z.R,⟨_,by rw[ek,t2,pad_pad]⟩,by show c.d.calls<=_;have:=z.bc;omega,by show c.ep<=_;omega⟩,rfl⟩
 .obtain⟨c',d1,d2,d3,d4,d5,d6,d7,d8⟩:=Hr z.g z.R (by omega) tl hf;rw[d1,show a.aE=({a with now:=gl a.dH,bQ:=a.dH,ep:=a.ep+1},0) by unfold St.aE;rw[hae2,N8,if_neg hf]];exact⟨⟨d2,d3,⟨0,by rw[pX,d6,N8,ek];rfl⟩,by show c'.d.calls<=_;have:=z.bc;omega,by show c'.ep<=_;rw[d8];omega⟩,rfl⟩
end
section
variable{w:World}{x:X}{c:C}{n:Nat}{a:St}{K:Nat}
theorem Lw(h:At w x n c)(z:Zc c n a K)(hK:K<=1000000000000)(l:Int)(s:ByteArray)(hs:s.size<=9223372036854775807):
  Calls prog 147 #[sp x.b,.int .i64 l,.string s] w λe w'=>e=.returned (.int .i64 (a.aA l s.data.toList).2)/\∃c',At w' x n c'/\Zc c' n (a.aA l s.data.toList).1 (K+1)/\ag x.fp w w':=by
 have zw:=z.write l s.data.toList;rw[<-zw.2];exact(Ld h l s hs (z.ep0 hK) (by have:=(z.calls hK).1;omega) (z.calls hK).2 z.tab).mono λe w' ⟨r,A,o⟩=>⟨r,_,A,zw.1,o⟩
theorem Qu(h:At w x n c)(z:Zc c n a K)(l:Int):
  Calls prog 228 #[sp x.b,.int .i64 l] w λe w'=>e=.returned (.tuple #[.string ⟨(a.aK l).1.toArray⟩,.int .i64 (a.aK l).2])/\Below w.heap.size w w':=by
 rw[<-z.read l];exact Sh.nC h l
theorem Lx(h:At w x n c)(z:Zc c n a K):
  Calls prog 101 #[sp x.b] w λe w'=>e=.returned (.bool true)/\∃c',yh w w' x n c'/\Zc c' n {a with now:=gl a.bQ} K:=
 (Lg h z.bQ).mono λe w' ⟨r,p⟩=>⟨r,_,p,z.abort⟩
theorem Hu(h:At w x n c)(z:Zc c n a K)(hK:K<=1000000000000):
  Calls prog 100 #[sp x.b] w λe w'=>e=.returned (.int .i64 a.aE.2)/\∃c',yh w w' x n c'/\Zc c' n a.aE.1 (K+1):=by
 have hm:c.m.length<=1024:=by rw[z.g.ml];unfold eY;omega
 have zc:=z.j0 h.tl hK;rw[<-zc.2];exact(Ht h z.g.br (z.ep0 hK).1 (λy hy=>by have:=z.g.ti y hy;omega) z.g.sl (z.calls hK).1 (z.calls hK).2 (Rt.kF z.R.ro) (λhf he=>by
  obtain⟨mT,P,e,_,_,_,_,_,t6,t7⟩:=oJ z.g h.tl hf;rw[e];exact⟨by rw[t6];exact t7,t6⟩)).mono λe w' ⟨r,p⟩=>⟨r,_,p,zc.1⟩
end
structure QS where
 a:St
 l:List Fr
 hand:Nat
def QS.ps(q:QS)(c:C):PS:=⟨c,q.l,q.hand⟩
def QS.turn(s:QS):QS:={s with hand:=(s.hand+1) % s.l.length}
def QS.jF:Nat->QS->QS×Int
 |0,s=>(s,-1)
 |m+1,s=>
  if 0<(im s.l s.hand).held then QS.jF m s.turn
  else if(im s.l s.hand).used=true then QS.jF m {s.turn with l:=s.l.set s.hand {im s.l s.hand with used:=false}}
  else(s.turn,(s.hand:Int))
def QS.aH(s:QS):QS×Int:=
 if 0<=Gs (λf=>decide (f.an<0)) s.l then(s,Gs (λf=>decide (f.an<0)) s.l)else s.jF (2*s.l.length+1)
def QS.bI(s:QS)(k:Nat):QS×Int:=
 if(im s.l k).bX=true then
  if(s.a.aA (im s.l k).an (im s.l k).fO.data.toList).2=0 then({s with a:=(s.a.aA (im s.l k).an (im s.l k).fO.data.toList).1,l:=s.l.set k {im s.l k with bX:=false}},0)
  else({s with a:=(s.a.aA (im s.l k).an (im s.l k).fO.data.toList).1},(s.a.aA (im s.l k).an (im s.l k).fO.data.toList).2)
 else(s,0)
def QS.aZ(s:QS)(p:Int):QS×ByteArray×Int:=
 if 0<=findF s.l p then
  ({s with l:=s.l.set (findF s.l p).toNat {im s.l (findF s.l p).toNat with held:=(im s.l (findF s.l p).toNat).held+1,used:=true}},(im s.l (findF s.l p).toNat).fO,0)
 else if(s.a.aK p).2≠0 then(s,⟨#[]⟩,(s.a.aK p).2)
 else if s.aH.2<0 then(s.aH.1,⟨#[]⟩,12)
 else if(s.aH.1.bI s.aH.2.toNat).2≠0 then((s.aH.1.bI s.aH.2.toNat).1,⟨#[]⟩,(s.aH.1.bI s.aH.2.toNat).2)
 else({(s.aH.1.bI s.aH.2.toNat).1 with l:=(s.aH.1.bI s.aH.2.toNat).1.l.set s.aH.2.toNat ⟨p,⟨(s.a.aK p).1.toArray⟩,1,false,true⟩},⟨(s.a.aK p).1.toArray⟩,0)
def QS.gX(s:QS)(p:Int):Option (Nat×Fr):=
 if findF s.l p<0 then none else match s.l[(findF s.l p).toNat]? with
  |none=>none
  |some f=>if f.held=0 then none else some ((findF s.l p).toNat,f)
def QS.gY(s:QS)(p:Int):QS×Int:=match s.gX p with
 |none=>(s,16)
 |some (k,f)=>({s with l:=s.l.set k {f with held:=f.held-1}},0)
def rX(s:ByteArray):ByteArray:=⟨(eO s.data.toList 232).toArray⟩
def QS.fE(s:QS)(p:Int)(b:ByteArray):QS×Int:=
 if 232<b.size then(s,4)else match s.gX p with
 |none=>(s,16)
 |some (k,f)=>({s with l:=s.l.set k {f with fO:=rX b,bX:=true,used:=true}},0)
def QS.cU(s:QS)(p:Int):QS×ByteArray×Int:=
 if(s.aZ p).2.2≠0 then((s.aZ p).1,⟨#[]⟩,(s.aZ p).2.2)else(((s.aZ p).1.gY p).1,(s.aZ p).2.1,0)
def QS.du(s:QS)(p:Int)(b:ByteArray):QS×Int:=
 if 232<b.size then(s,4)else if(s.aZ p).2.2≠0 then((s.aZ p).1,(s.aZ p).2.2)else((((s.aZ p).1.fE p b).1.gY p).1,0)
def QS.aR(s:QS)(p:Int):QS×Int:=
 if 0<=findF s.l p/\0<(im s.l (findF s.l p).toNat).held then(s,16)
 else if(s.a.aR p).2≠0 then({s with a:=(s.a.aR p).1},(s.a.aR p).2)
 else if 0<=findF s.l p then({s with a:=(s.a.aR p).1,l:=s.l.set (findF s.l p).toNat Fr.nil},0)
 else({s with a:=(s.a.aR p).1},0)
def QS.eE(s:QS)(i:Int):QS×Int:=
 if i<0\/(s.l.length:Int)<=i then(s,3)
 else if(im s.l i.toNat).an<0 then(s,0)
 else if 0<(im s.l i.toNat).held then(s,16)
 else if(s.bI i.toNat).2≠0 then s.bI i.toNat
 else({(s.bI i.toNat).1 with l:=(s.bI i.toNat).1.l.set i.toNat Fr.nil},0)
def QS.uh(s:QS):Nat:=s.l.countP λf=>decide (0<f.held)
def QS.aT(s:QS):Nat->QS×Int
 |0=>(s,0)
 |k+1=>if(s.aT k).2≠0 then s.aT k else(s.aT k).1.bI k
def QS.aE(s:QS):QS×Int:=
 if 0<s.uh then(s,16)
 else if(s.aT s.l.length).2≠0 then s.aT s.l.length
 else({(s.aT s.l.length).1 with a:=(s.aT s.l.length).1.a.aE.1},(s.aT s.l.length).1.a.aE.2)
def QS.bY(s:QS):QS:={s with a:={s.a with now:=gl s.a.bQ},l:=List.replicate s.l.length Fr.nil}
def QS.bJ(s:QS)(p:List UInt8):QS×Int×Int:=({s with a:=(s.a.bJ p).1},(s.a.bJ p).2)
theorem Fw(c:C):∀(m:Nat) (q:QS),(q.ps c).jF m=((q.jF m).1.ps c,(q.jF m).2)
 |0,_=>rfl
 |m+1,q=>by
  unfold PS.jF QS.jF;show(if 0<(im q.l q.hand).held then _ else _)=_
  split
  .exact Fw c m q.turn
  .show(if(im q.l q.hand).used=true then _ else _)=_
   split
   .exact Fw c m {q.turn with l:=q.l.set q.hand {im q.l q.hand with used:=false}}
   .rfl
theorem vP(c:C)(q:QS):(q.ps c).aH=(q.aH.1.ps c,q.aH.2):=by
 unfold PS.aH QS.aH;show(if 0<=Gs (λf=>decide (f.an<0)) q.l then _ else _)=_
 split
 .rfl
 .exact Fw c _ q
theorem Fx(c:C)(q:QS)(p:Int):(q.ps c).gX p=q.gX p:=rfl
theorem let_ps(c:C)(q:QS)(p:Int):(q.ps c).gY p=((q.gY p).1.ps c,(q.gY p).2):=by
 unfold PS.gY QS.gY;rw[Fx]
 cases q.gX p with
 |none=>rfl
 |some kf=>rfl
theorem Ly:∀(m:Nat) (q:QS),(q.jF m).1.a=q.a/\(q.jF m).1.l.length=q.l.length
 |0,_=>⟨rfl,rfl⟩
 |m+1,q=>by
  unfold QS.jF
  split
  .exact Ly m q.turn
  .split
   .have h:=Ly m {q.turn with l:=q.l.set q.hand {im q.l q.hand with used:=false}};exact⟨h.1,by rw[h.2,bW]⟩
   .exact⟨rfl,rfl⟩
theorem iH(q:QS):q.aH.1.a=q.a/\q.aH.1.l.length=q.l.length:=by
 unfold QS.aH
 split
 .exact⟨rfl,rfl⟩
 .exact Ly _ q
attribute [local go_sem ↓] Go.wp_at_zero Go.wp_at_succ
variable{w:World}{y:Y}{n K K':Nat}{q:QS}{l:List Fr}{f:Fr}
def ZP(w:World)(y:Y)(n:Nat)(q:QS)(K:Nat):Prop:= ∃c,gW w y n (q.ps c)/\Zc c n q.a K
theorem ZP.below{w':World}(h:ZP w y n q K)(hb:Below w.heap.size w w'):ZP w' y n q K:=by
 obtain⟨c,A,z⟩:=h;exact⟨c,A.below hb,z⟩
theorem ZP.more(h:ZP w y n q K)(hk:K<=K'):ZP w y n q K':=by
 obtain⟨c,A,z⟩:=h;exact⟨c,A,z.more hk⟩
theorem nr{k:Nat}(h:l[k]?=some f):im l k=f:=by unfold im;rw[h];rfl
theorem Lz{c:C}(h:gW w y n (q.ps c))(z:Zc c n q.a K)(hK:K<=1000000000000)(k:Nat)(hf:q.l[k]?=some f)(hd:f.bX=true)(hs:f.fO.size<=1000):
  Calls prog 99 #[pp y.pb,.int .i64 (k:Nat)] w λe w'=>e=.returned (.int .i64 (q.bI k).2)/\ZP w' y n (q.bI k).1 (K+1)/\ag y.fp w w':=by
 have hk:k<q.l.length:=(aM.1 hf).1;have p1:w.cell? ⟨y.pb,1,none⟩=some (.slice (some ⟨y.fg,0,none⟩) q.l.length y.cp):=h.p1;have l2:q.l.length<=32:=h.l2;have Kp:(k:Int)<(q.l.length:Int):=by omega
 obtain⟨c0,c1,c2,c3,c4⟩:=h.yD k f hf;rw[hd]at c3;have KW:=xh (λ(W:World) (A:gW W y n (q.ps c))=>Lw A.hs z hK f.an f.fO (by omega));have HP:=xh (λ(w1 w2:World) (c':C) (A1:gW w1 y n (q.ps c)) (A:At w2 y.x n c') (o:ag y.x.fp w1 w2)=>(show gW w2 y n (q.ps c')/\ag y.fp w1 w2 from A1.same A o));have AD:=xh h.drew;have OD:=xh ((ag.refl y.fp w).drew);have HF:=xh hf;obtain⟨R,hR⟩:∃R,q.a.aA f.an f.fO.data.toList=R:=⟨_,rfl⟩
 have hB:q.bI k=if R.2=0 then({q with a:=R.1,l:=q.l.set k {f with bX:=false}},0)else({q with a:=R.1},R.2):=by
  unfold QS.bI;rw[nr hf,if_pos hd,hR]
 rw[hB];rw[hR]at KW;obtain⟨Ra,Re⟩:=R;dsimp only at KW ⊢;obtain⟨Q2,hQ⟩:∃Q2,(if Re=0 then(({q with a:=Ra,l:=q.l.set k {f with bX:=false}}:QS),(0:Int))else({q with a:=Ra},Re))=Q2:=⟨_,rfl⟩;rw[hQ];have HQ:=xh hQ;clear hQ;have S0:=xh (show(λW'=>W'.cell? ⟨y.pb,0,none⟩=some (.pointer (some ⟨y.x.b,0,none⟩))/\W'.cell? ⟨y.fg,k*5,none⟩=some (.int .i64 f.an)/\W'.cell? ⟨y.fg,k*5+1,none⟩=some (.string f.fO)) w.drew from⟨AD.o.p0,(AD.o.yD k f hf).1,(AD.o.yD k f hf).2.1⟩)
 clear h z hf hd hB hR c0 c1 c2 c4;unfold pp sp at *;go_enter func99,ntmps99;go_wp2_with fail;refine wp_region_held_drew (S:=λW'=>W'.cell? ⟨y.pb,0,none⟩=some (.pointer (some ⟨y.x.b,0,none⟩))/\W'.cell? ⟨y.fg,k*5,none⟩=some (.int .i64 f.an)/\W'.cell? ⟨y.fg,k*5+1,none⟩=some (.string f.fO)) (by kernel_rfl) (S0.o) (λau=>?_);refine cP [(0,18),(1,19),(2,20),(3,21),(4,22),(5,23),(6,24),(7,25),(8,26),(9,27),(10,28),(11,29)] ?_
 iterate 12 refine bj ?_
 refine cQ 12 30 λK hK=>?_;go_simp
 go_at_call 147
 refine(KW.o _ AD.o).mono ?_;rintro e w5 ⟨rfl,c5,a5,z5,o5⟩;have P5:=HP.o w.drew w5 c5 AD.o a5 o5;have A5:=xh P5.1;have O5:=xh (OD.o.trans P5.2);have Z5:=xh z5;clear P5 a5 o5 z5;obtain⟨d0,d1,d2,d3,d4⟩:=A5.o.yD k f HF.o;have q0:=A5.o.p0;go_simp;refine bz hK (⟨q0,d0,d1⟩) (λau=>?_);refine cP [(13,6)] ?_
 iterate 1 refine bj ?_
 refine wpAnyH_done (by kernel_rfl) ?_ _;have hfs:=HF.o
 by_cases he:Re=0
 .subst he;have HR:=xh (HQ.o.symm.trans (if_pos rfl));clear HQ;obtain⟨z0,B0,qq⟩:=A5.o.fE k 3 (by omega) {f with bX:=false} (.bool false) HF.o rfl;have AZ:=xh B0;have OZ:=xh (O5.o.trans qq);clear B0 qq;go_wp2_with fail;go_ret;exact⟨by rw[HR.o];rfl,by rw[HR.o];exact⟨c5,AZ.o,Z5.o⟩,OZ.o⟩
 .have HR:=xh (HQ.o.symm.trans (if_neg he));clear HQ;have hq:(Re==0)=false:=by rw[beq_eq_false_iff_ne];exact he
  have kh:(Re != 0)=true:=by rw[bne_iff_ne];exact he
  go_wp2_with fail;go_ret;exact⟨by rw[HR.o];rfl,by rw[HR.o];exact⟨c5,A5.o,Z5.o⟩,O5.o⟩
theorem zR(h:ZP w y n q K)(hK:K<=1000000000000)(k:Nat)(hk:k<q.l.length)(hs:∀f∈q.l,f.fO.size<=1000):
  Calls prog 99 #[pp y.pb,.int .i64 (k:Nat)] w λe w'=>e=.returned (.int .i64 (q.bI k).2)/\ZP w' y n (q.bI k).1 (K+1)/\ag y.fp w w':=by
 obtain⟨c,A,z⟩:=h;have hf:=jt hk
 by_cases hd:(im q.l k).bX=true
 .exact Lz A z hK k hf hd (hs _ (ay hf))
 .unfold QS.bI;rw[if_neg hd];exact(Ky A k hf (by simpa using hd)).mono λe w' ⟨r,b⟩=>⟨r,⟨c,A.below b,z.more (by omega)⟩,.ai b⟩
theorem hold_go(h:ZP w y n q K)(hK:K<=1000000000000)(p:Int)(hk:findF q.l p= -1)(hr:(q.a.aK p).2=0)(k:Nat)(hv:q.aH.2=(k:Nat))(kE:k<q.l.length)(hs:∀f∈q.aH.1.l,f.fO.size<=1000):
  Calls prog 213 #[pp y.pb,.int .i64 p] w λe w'=>e=.returned (.tuple #[.string (q.aZ p).2.1,.int .i64 (q.aZ p).2.2])/\ZP w' y n (q.aZ p).1 (K+1)/\ag y.fp w w':=by
 obtain⟨c,A,z⟩:=h;have KF:=xh (iF A p);rw[show(q.ps c).l=q.l from rfl,hk]at KF;have HB:=xh (λw' (hb:Below w.heap.size w w')=>A.below hb);have KR:=xh (λw' (hb:Below w.heap.size w w')=>Qu (A.below hb).hs z p);have KV:=xh (λw' (hb:Below w.heap.size w w')=>zA (A.below hb));rw[vP]at KV;rw[hr]at KR;rw[hv]at KV;have hvl:=(iH q).2;have xu:=(iH q).1
 have hH:q.aZ p=if(q.aH.1.bI k).2≠0 then((q.aH.1.bI k).1,⟨#[]⟩,(q.aH.1.bI k).2)else({(q.aH.1.bI k).1 with l:=(q.aH.1.bI k).1.l.set k ⟨p,⟨(q.a.aK p).1.toArray⟩,1,false,true⟩},⟨(q.a.aK p).1.toArray⟩,0):=by
  unfold QS.aZ;rw[hk,if_neg (by omega),if_neg (by rw[hr];simp),hv,if_neg (by omega),show((k:Nat):Int).toNat=k by omega]
 rw[hH];clear hH;generalize (q.a.aK p).1=R at *;generalize q.aH.1=V at *;have KB:=xh (λw' (h:ZP w' y n V K)=>zR h hK k (by omega) hs);have rY:k<(V.bI k).1.l.length:=by
  unfold QS.bI
  split
  .split
   .show k<(V.l.set k _).length;rw[bW];omega
   .show k<V.l.length;omega
  .show k<V.l.length;omega
 generalize V.bI k=VB at *;obtain⟨B,be⟩:=VB;dsimp only at KB rY ⊢;obtain⟨Q2,hQ⟩:∃Q2,(if be≠0 then(B,(⟨#[]⟩:ByteArray),be)else(({B with l:=B.l.set k ⟨p,⟨R.toArray⟩,1,false,true⟩}:QS),⟨R.toArray⟩,0))=Q2:=⟨_,rfl⟩;rw[hQ];have HQ:=xh hQ;clear hQ;have HZ:=xh (show ∀W,gW W y n (V.ps c)->ZP W y n V K from λW h=>⟨c,h,by rw[xu];exact z⟩);have P0:¬(k:Int)<0:=by omega
 clear A z hk hv hvl xu hs hr;unfold pp sp at *;go_enter func213,ntmps213;go_wp2_with fail;refine KF.o.mono ?_;rintro e w1 ⟨rfl,bg⟩;have O1:=xh bg;have p0:=(HB.o w1 bg).p0;clear bg;go_wp2_with fail;refine(KR.o w1 O1.o).mono ?_;rintro e w2 ⟨rfl,dn⟩;have O2:=xh (aC O1.o dn);clear dn p0;go_wp2_with fail;refine(KV.o w2 O2.o).mono ?_;rintro e w3 ⟨rfl,A3,o3⟩;have Z3:=xh (HZ.o w3 A3);have o3:=xh ((ag.ai (S:=y.fp) O2.o).trans o3)
 clear A3;go_wp2_with fail;refine(KB.o w3 Z3.o).mono ?_;rintro e w4 ⟨rfl,z4,o4⟩;obtain⟨c4,A4,Z4⟩:=z4;have A4:=xh A4;have Z4:=xh Z4;have o4:=xh (o3.o.trans o4)
 by_cases he:be=0
 .subst he;have HR:=xh (HQ.o.symm.trans (if_neg (by simp)));clear HQ;have p1:w4.cell? ⟨y.pb,1,none⟩=some (.slice (some ⟨y.fg,0,none⟩) B.l.length y.cp):=A4.o.p1;have l2:B.l.length<=32:=A4.o.l2;have Kp:(k:Int)<(B.l.length:Int):=by omega
  obtain⟨f,HF⟩:∃f,Hid (B.l[k]?=some f):=⟨_,xh (aG rY)⟩;obtain⟨c0,c1,c2,c3,c4'⟩:=A4.o.yD k f HF.o;obtain⟨z0,B0,q0⟩:=A4.o.fE k 0 (by omega) {f with an:=p} (.int .i64 p) HF.o rfl;rw[kY]at z0 B0 q0;have g0:(B.l.set k {f with an:=p})[k]?=some {f with an:=p}:=by rw[dI rY]
  obtain⟨z1,B1,q1⟩:=B0.fE k 1 (by omega) {f with an:=p,fO:=⟨R.toArray⟩} (.string ⟨R.toArray⟩) g0 rfl;simp only[jS]at B1;have g1:(B.l.set k {f with an:=p,fO:=⟨R.toArray⟩})[k]?=some {f with an:=p,fO:=⟨R.toArray⟩}:=by rw[dI rY]
  obtain⟨z2,B2,q2⟩:=B1.fE k 2 (by omega) {f with an:=p,fO:=⟨R.toArray⟩,held:=1} (.int .i64 1) g1 rfl;simp only[jS]at B2;have g2:(B.l.set k {f with an:=p,fO:=⟨R.toArray⟩,held:=1})[k]?=some {f with an:=p,fO:=⟨R.toArray⟩,held:=1}:=by rw[dI rY]
  obtain⟨z3,B3,q3⟩:=B2.fE k 3 (by omega) {f with an:=p,fO:=⟨R.toArray⟩,held:=1,bX:=false} (.bool false) g2 rfl;simp only[jS]at B3;have g3:(B.l.set k {f with an:=p,fO:=⟨R.toArray⟩,held:=1,bX:=false})[k]?=some {f with an:=p,fO:=⟨R.toArray⟩,held:=1,bX:=false}:=by rw[dI rY]
  obtain⟨z4,B4,q4⟩:=B3.fE k 4 (by omega) ⟨p,⟨R.toArray⟩,1,false,true⟩ (.bool true) g3 rfl;simp only[jS]at B4;have AZ:=xh B4;have OZ:=xh (o4.o.trans ((((q0.trans q1).trans q2).trans q3).trans q4));clear B0 B1 B2 B3 B4 q0 q1 q2 q3 q4 g0 g1 g2 g3 rY;go_wp2_with fail;go_ret2;exact⟨by rw[HR.o];rfl,by rw[HR.o];exact⟨c4,AZ.o,Z4.o⟩,OZ.o⟩
 .have HR:=xh (HQ.o.symm.trans (if_pos he));clear HQ;have hq:(be==0)=false:=by rw[beq_eq_false_iff_ne];exact he
  have kh:(be != 0)=true:=by rw[bne_iff_ne];exact he
  clear rY;go_wp2_with fail;go_ret2;exact⟨by rw[HR.o];rfl,by rw[HR.o];exact⟨c4,A4.o,Z4.o⟩,o4.o⟩
def Fb(l:List Fr)(K:Nat):Prop:= ∀f∈l,0<=f.held/\f.held<=K/\f.fO.size<=1000
theorem Fb.set(h:Fb l K)(k:Nat)(hf:0<=f.held/\f.held<=K/\f.fO.size<=1000):Fb (l.set k f) K:=by
 intro g hg
 rcases yn hg with hg|rfl
 .exact h g hg
 .exact hf
theorem Fb.more(h:Fb l K)(hk:K<=K'):Fb l K':=λf hf=>by have:=h f hf;omega
theorem Fb.nil :0<=Fr.nil.held/\Fr.nil.held<=(K:Nat)/\Fr.nil.fO.size<=1000:=⟨jg _,by show(0:Int)<=_;omega,by decide⟩
theorem zS :∀(m:Nat) (s:QS),s.hand<s.l.length->Fb s.l K->Fb (s.jF m).1.l K/\(s.jF m).1.hand<(s.jF m).1.l.length/\((s.jF m).2= -1\/∃k:Nat,(s.jF m).2=k/\k<s.l.length)
 |0,_,hl,hc=>⟨hc,hl,.inl rfl⟩
 |m+1,s,hl,hc=>by
  unfold QS.jF;have hf:=jt hl;have hm:=hc _ (ay hf);have ht:(s.hand+1) % s.l.length<s.l.length:=qR _ (by omega)
  split
  .exact zS m s.turn ht hc
  .split
   .have:=zS m {s.turn with l:=s.l.set s.hand {im s.l s.hand with used:=false}} (by rw[bW];exact ht) (hc.set _ hm);rw[bW]at this;exact this
   .exact⟨hc,ht,.inr ⟨s.hand,rfl,hl⟩⟩
theorem sO(s:QS)(hl:s.hand<s.l.length)(hc:Fb s.l K):Fb s.aH.1.l K/\s.aH.1.hand<s.aH.1.l.length/\(s.aH.2= -1\/∃k:Nat,s.aH.2=k/\k<s.l.length):=by
 unfold QS.aH
 split
 .refine⟨hc,hl,?_⟩
  rcases Ff (λf=>decide (f.an<0)) s.l with e|⟨k,f,e,hf,_⟩
  .exact .inl e
  .exact .inr ⟨k,e,(aM.1 hf).1⟩
 .exact zS _ s hl hc
theorem qZ(h:ZP w y n q K)(hb:Fb q.l K)(hK:K<=1000000000000)(p:Int):
  Calls prog 213 #[pp y.pb,.int .i64 p] w λe w'=>e=.returned (.tuple #[.string (q.aZ p).2.1,.int .i64 (q.aZ p).2.2])/\ZP w' y n (q.aZ p).1 (K+1)/\ag y.fp w w':=by
 have h':=h;obtain⟨c,A,z⟩:=h
 rcases fX q.l p with e|⟨k,f,e,hf,_,_⟩
 .by_cases hr:(q.a.aK p).2=0
  .obtain⟨v1,v2,v3⟩:=sO q A.lh hb
   rcases v3 with v3|⟨k,v3,hk⟩
   .unfold QS.aZ;rw[e,if_neg (by omega),if_neg (by rw[hr];simp),if_pos (by omega)];refine(Qb A p e (by rw[show(q.ps c).c=c from rfl,z.read];exact hr) (by rw[vP];show q.aH.2<0;omega)).mono λe w' ⟨r,A',o⟩=>⟨r,?_,o⟩;rw[vP]at A';exact⟨c,A',by rw[(iH q).1];exact z.more (by omega)⟩
   .exact hold_go h' hK p e hr k v3 hk (λf hf=>(v1 f hf).2.2)
  .unfold QS.aZ;rw[e,if_neg (by omega),if_pos hr];have hb:=TN A p e (by rw[show(q.ps c).c=c from rfl,z.read];exact hr);rw[show(q.ps c).c=c from rfl,z.read]at hb;exact hb.mono λe w' ⟨h1,h2⟩=>⟨h1,⟨c,A.below h2,z.more (by omega)⟩,.ai h2⟩
 .unfold QS.aZ;rw[e,if_pos (by omega),show((k:Nat):Int).toNat=k from by omega,nr hf];exact(TM A p k e hf (by have:=hb f (ay hf);omega)).mono λe w' ⟨r,A',o⟩=>⟨r,⟨c,A',z.more (by omega)⟩,o⟩
variable{w:World}{y:Y}{n K:Nat}{s:PS}{q:QS}
theorem eR:(prog.info? 5).map (λi=>(i.zero,i.size,i.bytes))=some (some (.int .u8 0),1,1):=by kernel_rfl
theorem Ut(n:Nat)(h1:n<=140737488355328)(w:World):
  (Instr.makeSlice 150 (.int .i64 n) (.int .i64 n)).run prog w=.ok (.slice (some ⟨w.heap.size,0,none⟩) n n) (w.alloc (.cells (dN (List.replicate n 0)).toArray 5)):=by
 obtain⟨i0,hi,ku,js,ki⟩:=info_parts eR;have h:=run_make (P:=prog) w 150 5 i0 (.int .u8 0) underlying150 hi ku .i64 .i64 n n (by omega) (jg _) (by rw[ki];omega) (by omega);rw[h,js];have e:madeCells (Value.int .u8 0).cells (((n:Int).toNat)*1)=(dN (List.replicate n 0)).toArray:=by
  show madeCells #[Value.int .u8 0] (n*1)=_;rw[Nat.mul_one,hJ];simp[dN,bv]
 rw[e];rfl
theorem full_eq(b:ByteArray):b++(⟨(List.replicate (232-b.size) (0:UInt8)).toArray⟩:ByteArray)=rX b:=by
 apply mo;unfold rX eO;rw[ByteArray.data_append];simp
theorem zT{b:ByteArray}(h:b.size<=232):(rX b).size=232:=by
 have hl:b.data.toList.length=b.size:=by simp
 show(eO b.data.toList 232).toArray.size=232;unfold eO;simp;omega
theorem set_in(h:gW w y n s)(p:Int)(b:ByteArray)(hb:b.size<=232){k:Nat}{f:Fr}(hh:s.gX p=some (k,f)):
  Calls prog 219 #[pp y.pb,.int .i64 p,.string b] w λe w'=>e=.returned (.int .i64 0)/\gW w' y n {s with l:=s.l.set k {f with fO:=rX b,bX:=true,used:=true}}/\ag y.fp w w':=by
 have KH:=xh (zy h p);rw[hh]at KH;obtain⟨hf,_,_⟩:=zz hh;have kE:k<s.l.length:=(aM.1 hf).1;have l2:=h.l2;have HF:=xh hf;have HA:=xh (λW (hb:Below w.heap.size w W)=>h.below hb);have hbI:¬(232:Int)<(b.size:Int):=by omega
 obtain⟨m,hm⟩:∃m,232-b.size=m:=⟨_,rfl⟩;have em:IntKind.i64.wrap (232-(b.size:Int))=(m:Int):=by rw[show(232:Int)-(b.size:Int)=(m:Int) by omega];exact IntWalk.i64_in _ (by omega)
 have hmk:=λW=>Ut m (by omega) W;have HCV:=xh (λ(W:World)=>(cm (P:=prog) (W.alloc (.cells (dN (List.replicate m 0)).toArray 5)) 150 9 5 underlying150 underlying5 underlying9 ⟨W.heap.size,0,none⟩ m m (List.replicate m 0) (by simp) (bq (aF.new W 5 (dN (List.replicate m 0)).toArray) 0 _ (by intro j u hu;rw[bl];simpa using hu))));obtain⟨FB,hFB⟩:∃FB,rX b=FB:=⟨_,rfl⟩;have HCAT:=xh (full_eq b);rw[hFB]at HCAT;rw[hFB]
 rw[hm]at HCAT;have hm0:(0:Int)<=(m:Int):=by omega
 have oX:¬9223372036854775807<b.size+(⟨(List.replicate m (0:UInt8)).toArray⟩:ByteArray).size:=by
  have:(⟨(List.replicate m (0:UInt8)).toArray⟩:ByteArray).size=m:=by show(List.replicate m (0:UInt8)).toArray.size=m;simp
  omega
 have NK:m<=232:=by omega
 generalize (⟨(List.replicate m (0:UInt8)).toArray⟩:ByteArray)=ZZ at *;generalize (dN (List.replicate m (0:UInt8))).toArray=ZC at *;clear h hh hf hm hb hFB;unfold pp uc at *;go_enter func219,ntmps219;go_wp2_with fail;refine KH.o.mono ?_;rintro e w1 ⟨rfl,bg⟩;have O1:=xh bg;have A1:=xh (HA.o _ (ae bg (.cells ZC 5)));have O1':=xh (ae bg (.cells ZC 5));clear bg;go_wp2_with fail;rw[HCV.o w1];clear hmk;generalize (w1.alloc (.cells ZC 5))=w2 at *
 have hcat:=HCAT.o;obtain⟨c0,c1,c2,c3,c4⟩:=A1.o.yD k f HF.o;obtain⟨z1,B1,q1⟩:=A1.o.fE k 1 (by omega) {f with fO:=FB} (.string (FB)) HF.o rfl;have g1:(s.l.set k {f with fO:=FB})[k]?=some {f with fO:=FB}:=by rw[dI kE]
 obtain⟨z2,B2,q2⟩:=B1.fE k 3 (by omega) {f with fO:=FB,bX:=true} (.bool true) g1 rfl;simp only[jS]at B2;have g2:(s.l.set k {f with fO:=FB,bX:=true})[k]?=some {f with fO:=FB,bX:=true}:=by rw[dI kE]
 obtain⟨z3,B3,q3⟩:=B2.fE k 4 (by omega) {f with fO:=FB,bX:=true,used:=true} (.bool true) g2 rfl;simp only[jS]at B3;have AZ:=xh B3;have OZ:=xh ((ag.ai (S:=y.fp) O1'.o).trans ((q1.trans q2).trans q3));clear B1 B2 B3 q1 q2 q3 g1 g2 kE;go_wp2_with fail;go_ret;exact aP ⟨AZ.o,OZ.o⟩
theorem set_out(h:gW w y n s)(p:Int)(b:ByteArray)(hb:b.size<=232)(hh:s.gX p=none):
  Calls prog 219 #[pp y.pb,.int .i64 p,.string b] w λe w'=>e=.returned (.int .i64 16)/\Below w.heap.size w w':=by
 have KH:=xh (zy h p);rw[hh]at KH;have hbI:¬(232:Int)<(b.size:Int):=by omega
 clear h hh hb;unfold pp uc at *;go_enter func219,ntmps219;go_wp2_with fail;refine KH.o.mono ?_;rintro e w1 ⟨rfl,bg⟩;have O1:=xh bg;clear bg;go_wp2_with fail;go_ret;exact aP O1.o
theorem set_big(w:World)(pb:Nat)(p:Int)(b:ByteArray)(hb:232<b.size):
  Calls prog 219 #[pp pb,.int .i64 p,.string b] w λe w'=>e=.returned (.int .i64 4)/\Below w.heap.size w w':=by
 have hbI:(232:Int)<(b.size:Int):=by omega
 have O1:=xh (Below.refl w.heap.size w);clear hb;unfold pp;go_enter func219,ntmps219;go_wp2_with fail;go_ret;exact aP O1.o
theorem Uu(h:ZP w y n q K)(p:Int)(b:ByteArray):
  Calls prog 219 #[pp y.pb,.int .i64 p,.string b] w λe w'=>e=.returned (.int .i64 (q.fE p b).2)/\ZP w' y n (q.fE p b).1 K/\ag y.fp w w':=by
 obtain⟨c,A,z⟩:=h;unfold QS.fE
 by_cases hb:232<b.size
 .rw[if_pos hb];exact(set_big w y.pb p b hb).mono λe w' ⟨r,o⟩=>⟨r,⟨c,A.below o,z⟩,.ai o⟩
 .rw[if_neg hb]
  cases hh:q.gX p with
  |none=>exact(set_out A p b (by omega) (by rw[Fx,hh])).mono λe w' ⟨r,o⟩=>⟨r,⟨c,A.below o,z⟩,.ai o⟩
  |some kf=>exact(set_in A p b (by omega) (k:=kf.1) (f:=kf.2) (by rw[Fx,hh])).mono λe w' ⟨r,A',o⟩=>⟨r,⟨c,A',z⟩,o⟩
theorem Hv(h:ZP w y n q K)(hb:Fb q.l K)(hK:K<=1000000000000)(p:Int):
  Calls prog 214 #[pp y.pb,.int .i64 p] w λe w'=>e=.returned (.int .i64 (q.gY p).2)/\ZP w' y n (q.gY p).1 K/\ag y.fp w w':=by
 obtain⟨c,A,z⟩:=h;have hl:=let_any A p (λf hf=>by have:=hb f hf;omega);rw[let_ps]at hl;refine hl.mono λe w' ⟨r,A',o⟩=>⟨r,⟨c,A',?_⟩,o⟩;have:(q.gY p).1.a=q.a:=by
  unfold QS.gY
  cases q.gX p with
  |none=>rfl
  |some kf=>rfl
 rw[this];exact z
variable{q:QS}{k K n g g3 g4 g5:Nat}{w:World}{y:Y}
theorem Qv(b:ByteArray)(q:Nat)(w:World)(s0:ByteArray)(B:aF w q 9 #[.string s0]):
  Calls prog 168 #[.string b,.pointer (some ⟨q,0,none⟩)] w λe w'=>e=.returned (.int .i64 0)/\aF w' q 9 #[.string b]/\ag [q] w w':=by
 have q0:=B.ab (i:=0) rfl;have q1:=B.frozen 0 (by simp);have B1:=xh (show aF (w.setCell ⟨q,0,none⟩ (.string b)) q 9 #[.string b]from B.bU 0 (.string b));have O1:=xh ((ag.refl [q] w).setCell (p:=⟨q,0,none⟩) (by simp) (.string b));clear B;go_enter func168,ntmps168;go_wp2_with fail;go_ret;exact aP ⟨B1.o,O1.o⟩
theorem vQ(h:Fb q.l K)(hk:k<q.l.length):Fb (q.bI k).1.l K/\(q.bI k).1.l.length=q.l.length:=by
 have hm:=h _ (ay (jt hk));unfold QS.bI
 split
 .split
  .exact⟨h.set _ hm,bW⟩
  .exact⟨h,rfl⟩
 .exact⟨h,rfl⟩
def Full(a:St):Prop:= ∀l,(a.aK l).1.length<=232
theorem Uv{l:List UInt8}(h:l.length<=232):(⟨l.toArray⟩:ByteArray).size<=1000:=by
 show l.toArray.size<=1000;simp;omega
theorem Uw(h:Fb q.l K)(hl:q.hand<q.l.length)(hf:Full q.a)(p:Int):Fb (q.aZ p).1.l (K+1)/\(q.aZ p).1.l.length=q.l.length:=by
 unfold QS.aZ
 rcases fX q.l p with e|⟨k,f,e,hk,_,_⟩
 .rw[e,if_neg (by omega)]
  split
  .exact⟨h.more (by omega),rfl⟩
  .obtain⟨v1,v2,v3⟩:=sO q hl h;have va:=iH q
   split
   .exact⟨v1.more (by omega),va.2⟩
   .rcases v3 with v3|⟨k,v3,hk⟩
    .omega
    .rw[v3,show((k:Nat):Int).toNat=k by omega];obtain⟨b1,b2⟩:=vQ (k:=k) v1 (by omega)
     split
     .exact⟨b1.more (by omega),by rw[b2,va.2]⟩
     .exact⟨(b1.more (by omega)).set _ ⟨by show(0:Int)<=1;omega,by show(1:Int)<=_;omega,Uv (hf p)⟩,by show(List.set _ _ _).length=_;rw[bW,b2,va.2]⟩
 .rw[e,if_pos (by omega),show((k:Nat):Int).toNat=k by omega,nr hk];have hm:=h _ (ay hk);exact⟨(h.more (by omega)).set _ ⟨by show 0<=f.held+1;omega,by show f.held+1<=_;omega,hm.2.2⟩,bW⟩
theorem vR{p:Int}{f:Fr}(h:q.gX p=some (k,f)):q.l[k]?=some f/\f.held≠0/\findF q.l p=k:=by
 unfold QS.gX at h
 rcases fX q.l p with e|⟨j,g,e,hg,_,_⟩
 .rw[e,if_pos (by omega)]at h;cases h
 .rw[e,if_neg (by omega),show((j:Nat):Int).toNat=j by omega,hg]at h;dsimp only at h
  split at h
  .cases h
  .rename_i fc;obtain⟨rfl,rfl⟩:j=k/\g=f:=by simpa using h
   exact⟨hg,fc,e⟩
theorem let_l(h:Fb q.l K)(p:Int):Fb (q.gY p).1.l K/\(q.gY p).1.l.length=q.l.length/\(q.gY p).1.a=q.a/\(q.gY p).1.hand=q.hand:=by
 unfold QS.gY
 cases hh:q.gX p with
 |none=>exact⟨h,rfl,rfl,rfl⟩
 |some kf=>
  obtain⟨k,f⟩:=kf;obtain⟨h1,h2,_⟩:=vR hh;have hm:=h _ (ay h1);exact⟨h.set k ⟨by show 0<=f.held-1;omega,by show f.held-1<=_;omega,hm.2.2⟩,bW,rfl,rfl⟩
theorem set_l(h:Fb q.l K)(p:Int)(b:ByteArray):Fb (q.fE p b).1.l K/\(q.fE p b).1.l.length=q.l.length/\(q.fE p b).1.a=q.a/\(q.fE p b).1.hand=q.hand:=by
 unfold QS.fE
 split
 .exact⟨h,rfl,rfl,rfl⟩
 .rename_i hb
  cases hh:q.gX p with
  |none=>exact⟨h,rfl,rfl,rfl⟩
  |some kf=>
   obtain⟨k,f⟩:=kf;obtain⟨h1,h2,_⟩:=vR hh;have hm:=h _ (ay h1);exact⟨h.set k ⟨hm.1,hm.2.1,by show(rX b).size<=_;rw[zT (by omega)];omega⟩,bW,rfl,rfl⟩
theorem LA(h:ZP w y n q K)(hb:Fb q.l K)(hK:K<=1000000000000)(p:Int)(he:(q.aZ p).2.2≠0):
  Calls prog 167 #[pp y.pb,.int .i64 p,.func (Fn.func 168) #[] #[.pointer (some ⟨g,0,none⟩)]] w λe w'=>e=.returned (.int .i64 (q.aZ p).2.2)/\ZP w' y n (q.aZ p).1 (K+1)/\ag y.fp w w':=by
 have KH:=xh (qZ h hb hK p);have hq:((q.aZ p).2.2 != 0)=true:=by rw[bne_iff_ne];exact he
 have kh:((q.aZ p).2.2==0)=false:=by rw[beq_eq_false_iff_ne];exact he
 generalize q.aZ p=R at *;clear h hb;unfold pp at *;go_enter func167,ntmps167;go_wp2_with fail;refine KH.o.mono ?_;rintro e w1 ⟨rfl,A1,o1⟩;have A1:=xh A1;have o1:=xh o1;go_wp2_with fail;go_ret;exact aP ⟨A1.o,o1.o⟩
theorem LB(h:ZP w y n q K)(hb:Fb q.l K)(hK:K<=1000000000000)(p:Int)(he:(q.aZ p).2.2≠0):
  Calls prog 167 #[pp y.pb,.int .i64 p,.func (Fn.func 218) #[] #[.pointer (some ⟨g3,0,none⟩),.pointer (some ⟨g4,0,none⟩),.pointer (some ⟨g5,0,none⟩)]] w λe w'=>e=.returned (.int .i64 (q.aZ p).2.2)/\ZP w' y n (q.aZ p).1 (K+1)/\ag y.fp w w':=by
 have KH:=xh (qZ h hb hK p);have hq:((q.aZ p).2.2 != 0)=true:=by rw[bne_iff_ne];exact he
 have kh:((q.aZ p).2.2==0)=false:=by rw[beq_eq_false_iff_ne];exact he
 generalize q.aZ p=R at *;clear h hb;unfold pp at *;go_enter func167,ntmps167;go_wp2_with fail;refine KH.o.mono ?_;rintro e w1 ⟨rfl,A1,o1⟩;have A1:=xh A1;have o1:=xh o1;go_wp2_with fail;go_ret;exact aP ⟨A1.o,o1.o⟩
theorem Hw(h:ZP w y n q K)(hb:Fb q.l K)(hK:K<=999999999999)(hl:q.hand<q.l.length)(Ux:Full q.a)(p:Int)(he:(q.aZ p).2.2=0)(s0:ByteArray)(B:aF w g 9 #[.string s0])(hg:g∉y.fp):
  Calls prog 167 #[pp y.pb,.int .i64 p,.func (Fn.func 168) #[] #[.pointer (some ⟨g,0,none⟩)]] w λe w'=>e=.returned (.int .i64 0)/\ZP w' y n ((q.aZ p).1.gY p).1 (K+1)/\ag (g::y.fp) w w'/\aF w' g 9 #[.string (q.aZ p).2.1]:=by
 have KH:=xh (qZ h hb (by omega) p);rw[he]at KH;have yg:=(Uw hb hl Ux p).1;generalize q.aZ p=R at *;have KL:=xh (λw' (A:ZP w' y n R.1 (K+1))=>Hv A yg (by omega) p);have HQ:=xh hg;have HB:=xh B;have HD:=xh (λ(w1 w2:World) (A:ZP w1 y n R.1 (K+1)) (o:ag [g] w1 w2)=>(show ZP w2 y n R.1 (K+1)from by
  obtain⟨c,A,z⟩:=A;exact⟨c,A.only o (λx hx hm=>hg (by rw[aI.1 hm]at hx;exact hx)),z⟩))
 clear h hb B yg he hg;unfold pp at *;go_enter func167,ntmps167;go_wp2_with fail;refine KH.o.mono ?_;rintro e w1 ⟨rfl,A1,o1⟩;have B1:=HB.o.only o1 HQ.o;have KG:=xh (Qv R.2.1 g w1 s0 B1);have A1:=xh A1;have o1:=xh o1;clear B1;go_wp2_with fail;refine KG.o.mono ?_;rintro e w2 ⟨rfl,B2,o2⟩;have A2:=xh (HD.o _ _ A1.o o2);have B2:=xh B2
 have o2:=xh ((o1.o.mono (λx hx _=>aw g hx)).trans (o2.mono (λx hx _=>by rw[aI.1 hx];exact fK ..)));go_wp2_with fail;refine(KL.o _ A2.o).mono ?_;rintro e w3 ⟨rfl,A3,o3⟩;have A3:=xh A3;have B3:=xh (B2.o.only o3 HQ.o);have o3:=xh (o2.o.trans (o3.mono (λx hx _=>aw g hx)));go_wp2_with fail;go_ret;exact aP ⟨A3.o,o3.o,B3.o⟩
theorem ui(h:ZP w y n q K)(p:Int)(b u:ByteArray)(B3:aF w g3 34 #[pp y.pb])(B4:aF w g4 3 #[.int .i64 p])(B5:aF w g5 9 #[.string b]):
  Calls prog 218 #[.string u,.pointer (some ⟨g3,0,none⟩),.pointer (some ⟨g4,0,none⟩),.pointer (some ⟨g5,0,none⟩)] w λe w'=>e=.returned (.int .i64 (q.fE p b).2)/\ZP w' y n (q.fE p b).1 K/\ag y.fp w w':=by
 have KS:=xh (Uu h p b);have c3:=B3.ab (i:=0) rfl;have c4:=B4.ab (i:=0) rfl;have c5:=B5.ab (i:=0) rfl;generalize q.fE p b=R at *;clear h B3 B4 B5;unfold pp at *;go_enter func218,ntmps218;go_wp2_with fail;refine KS.o.mono ?_;rintro e w1 ⟨rfl,A1,o1⟩;have A1:=xh A1;have o1:=xh o1;go_wp2_with fail;go_ret;exact aP ⟨A1.o,o1.o⟩
theorem Hx(h:ZP w y n q K)(hb:Fb q.l K)(hK:K<=999999999999)(hl:q.hand<q.l.length)(Ux:Full q.a)(p:Int)(he:(q.aZ p).2.2=0)(b:ByteArray)(B3:aF w g3 34 #[pp y.pb])(B4:aF w g4 3 #[.int .i64 p])(B5:aF w g5 9 #[.string b])(h3:g3∉y.fp)(h4:g4∉y.fp)(h5:g5∉y.fp):
  Calls prog 167 #[pp y.pb,.int .i64 p,.func (Fn.func 218) #[] #[.pointer (some ⟨g3,0,none⟩),.pointer (some ⟨g4,0,none⟩),.pointer (some ⟨g5,0,none⟩)]] w λe w'=>e=.returned (.int .i64 ((q.aZ p).1.fE p b).2)/\ZP w' y n (((q.aZ p).1.fE p b).1.gY p).1 (K+1)/\ag y.fp w w':=by
 have KH:=xh (qZ h hb (by omega) p);rw[he]at KH;have yg:=(Uw hb hl Ux p).1;have hbc:=(set_l yg p b).1;have KC:=xh (λ(w1:World) (A:ZP w1 y n (q.aZ p).1 (K+1)) (u:ByteArray) (o:ag y.fp w w1)=>ui A p b u (B3.only o h3) (B4.only o h4) (B5.only o h5));generalize q.aZ p=R at *;generalize R.1.fE p b=R2 at *;have KL:=xh (λw' (A:ZP w' y n R2.1 (K+1))=>Hv A hbc (by omega) p);clear h hb B3 B4 B5 yg hbc he h3 h4 h5;unfold pp at *
 go_enter func167,ntmps167;go_wp2_with fail;refine KH.o.mono ?_;rintro e w1 ⟨rfl,A1,o1⟩;have KG:=xh (KC.o w1 A1 R.2.1 o1);have o1:=xh o1;clear A1;go_wp2_with fail;refine KG.o.mono ?_;rintro e w2 ⟨rfl,A2,o2⟩;have A2:=xh A2;have o2:=xh (o1.o.trans o2);go_wp2_with fail;refine(KL.o _ A2.o).mono ?_;rintro e w3 ⟨rfl,A3,o3⟩;have A3:=xh A3;have o3:=xh (o2.o.trans o3);go_wp2_with fail;go_ret;exact aP ⟨A3.o,o3.o⟩
theorem Qw(h:ZP w y n q K)(hb:Fb q.l K)(hK:K<=999999999999)(Ux:Full q.a)(p:Int)(he:(q.aZ p).2.2=0):
  Calls prog 121 #[pp y.pb,.int .i64 p] w λe w'=>e=.returned (.tuple #[.string (q.aZ p).2.1,.int .i64 0])/\ZP w' y n ((q.aZ p).1.gY p).1 (K+1)/\ag y.fp w w':=by
 have O0:=xh (ae (Below.refl w.heap.size w) (.cells #[.string ⟨#[]⟩] 9));have B0:=xh (aF.new w 9 #[.string ⟨#[]⟩]);have NQ:=xh (show w.heap.size∉y.fp from λhm=>by
  obtain⟨c,A,z⟩:=h;have:=A.lt _ hm;omega)
 have KW:=xh (Hw (h.below O0.o) hb hK (by obtain⟨c,A,z⟩:=h;exact A.lh) Ux p he _ B0.o NQ.o);generalize (q.aZ p).2.1=r at *;generalize ((q.aZ p).1.gY p).1=S2 at *;clear h hb he Ux;unfold pp at *;go_enter func121,ntmps121;go_wp2_with fail;refine KW.o.mono ?_;rintro e w1 ⟨rfl,A1,o1,B1⟩;have A1:=xh A1;have o1:=xh ((ag.ai (S:=w.heap.size::y.fp) O0.o).trans o1);have q0:=B1.ab (i:=0) rfl;clear B1;go_wp2_with fail;go_ret2
 exact aP ⟨A1.o,o1.o.mono (λg hg dP=>by simp at hg;rcases hg with rfl|hg;(· omega);exact hg)⟩
theorem Uy(h:ZP w y n q K)(hb:Fb q.l K)(hK:K<=999999999999)(p:Int)(he:(q.aZ p).2.2≠0):
  Calls prog 121 #[pp y.pb,.int .i64 p] w λe w'=>e=.returned (.tuple #[.string ⟨#[]⟩,.int .i64 (q.aZ p).2.2])/\ZP w' y n (q.aZ p).1 (K+1)/\ag y.fp w w':=by
 have O0:=xh (ae (Below.refl w.heap.size w) (.cells #[.string ⟨#[]⟩] 9));have B0:=xh (aF.new w 9 #[.string ⟨#[]⟩]);have NQ:=xh (show w.heap.size∉y.fp from λhm=>by
  obtain⟨c,A,z⟩:=h;have:=A.lt _ hm;omega)
 have KW:=xh (LA (g:=w.heap.size) (h.below O0.o) hb (by omega) p he);generalize (q.aZ p)=R at *;clear h hb he;unfold pp at *;go_enter func121,ntmps121;go_wp2_with fail;refine KW.o.mono ?_;rintro e w1 ⟨rfl,A1,o1⟩;have B1:=B0.o.only o1 NQ.o;have A1:=xh A1;have o1:=xh ((ag.ai (S:=y.fp) O0.o).trans o1);have q0:=B1.ab (i:=0) rfl;clear B1;go_wp2_with fail;go_ret2;exact aP ⟨A1.o,o1.o⟩
theorem Qx(h:ZP w y n q K)(hb:Fb q.l K)(hK:K<=999999999999)(Ux:Full q.a)(p:Int)(b:ByteArray)(hs:b.size<=232)(he:(q.aZ p).2.2=0):
  Calls prog 176 #[pp y.pb,.int .i64 p,.string b] w λe w'=>e=.returned (.int .i64 ((q.aZ p).1.fE p b).2)/\ZP w' y n (((q.aZ p).1.fE p b).1.gY p).1 (K+1)/\ag y.fp w w':=by
 obtain⟨g3,hg3⟩:∃g,w.heap.size=g:=⟨_,rfl⟩;have b3:=aF.new w 34 #[pp y.pb];have o3:=ae (Below.refl w.heap.size w) (.cells #[pp y.pb] 34);have e3:(w.alloc (.cells #[pp y.pb] 34)).heap.size=g3+1:=by rw[<-hg3];simp
 have b4:=aF.new (w.alloc (.cells #[pp y.pb] 34)) 3 #[.int .i64 p];have o4:=ae o3 (.cells #[.int .i64 p] 3);have k4:=ae (Below.refl (w.alloc (.cells #[pp y.pb] 34)).heap.size _) (.cells #[.int .i64 p] 3);have e4:((w.alloc (.cells #[pp y.pb] 34)).alloc (.cells #[.int .i64 p] 3)).heap.size=g3+2:=by rw[<-hg3];simp
 have b5:=aF.new ((w.alloc (.cells #[pp y.pb] 34)).alloc (.cells #[.int .i64 p] 3)) 9 #[.string b];have o5:=ae o4 (.cells #[.string b] 9);have k5:=ae (Below.refl ((w.alloc (.cells #[pp y.pb] 34)).alloc (.cells #[.int .i64 p] 3)).heap.size _) (.cells #[.string b] 9);have B3:=aF.below (aF.below b3 k4 b3.lt) k5 (aF.below b3 k4 b3.lt).lt;have B4:=aF.below b4 k5 b4.lt;rw[e3]at B4;rw[e4]at b5;rw[hg3]at B3;have OZ:=xh o5
 have NQ:=xh (show ∀g,w.heap.size<=g->g∉y.fp from λg hg hm=>by
  obtain⟨c,A,z⟩:=h;have:=A.lt _ hm;omega)
 have KW:=xh (Hx (h.below OZ.o) hb hK (by obtain⟨c,A,z⟩:=h;exact A.lh) Ux p he b B3 B4 b5 (NQ.o _ (by omega)) (NQ.o _ (by omega)) (NQ.o _ (by omega)));have cl:=B3.ab (i:=0) rfl;have c4:=B4.ab (i:=0) rfl;have c5:=b5.ab (i:=0) rfl;have Ta:¬(232:Int)<(b.size:Int):=by omega
 generalize ((q.aZ p).1.fE p b).2=RR at *;generalize (((q.aZ p).1.fE p b).1.gY p).1=SS at *;clear h hb he Ux hs b3 b4 b5 B3 B4 o3 o4 o5 e3 e4 k4 k5;unfold pp at *;go_enter func176,ntmps176;go_wp2_with fail;refine KW.o.mono ?_;rintro e w1 ⟨rfl,A1,o1⟩;have A1:=xh A1;have o1:=xh ((ag.ai (S:=y.fp) OZ.o).trans o1);go_wp2_with fail;go_ret;exact aP ⟨A1.o,o1.o⟩
theorem Uz(h:ZP w y n q K)(hb:Fb q.l K)(hK:K<=999999999999)(Ux:Full q.a)(p:Int)(b:ByteArray)(hs:b.size<=232)(he:(q.aZ p).2.2≠0):
  Calls prog 176 #[pp y.pb,.int .i64 p,.string b] w λe w'=>e=.returned (.int .i64 (q.aZ p).2.2)/\ZP w' y n (q.aZ p).1 (K+1)/\ag y.fp w w':=by
 obtain⟨g3,hg3⟩:∃g,w.heap.size=g:=⟨_,rfl⟩;have b3:=aF.new w 34 #[pp y.pb];have o3:=ae (Below.refl w.heap.size w) (.cells #[pp y.pb] 34);have e3:(w.alloc (.cells #[pp y.pb] 34)).heap.size=g3+1:=by rw[<-hg3];simp
 have b4:=aF.new (w.alloc (.cells #[pp y.pb] 34)) 3 #[.int .i64 p];have o4:=ae o3 (.cells #[.int .i64 p] 3);have k4:=ae (Below.refl (w.alloc (.cells #[pp y.pb] 34)).heap.size _) (.cells #[.int .i64 p] 3);have e4:((w.alloc (.cells #[pp y.pb] 34)).alloc (.cells #[.int .i64 p] 3)).heap.size=g3+2:=by rw[<-hg3];simp
 have b5:=aF.new ((w.alloc (.cells #[pp y.pb] 34)).alloc (.cells #[.int .i64 p] 3)) 9 #[.string b];have o5:=ae o4 (.cells #[.string b] 9);have k5:=ae (Below.refl ((w.alloc (.cells #[pp y.pb] 34)).alloc (.cells #[.int .i64 p] 3)).heap.size _) (.cells #[.string b] 9);have B3:=aF.below (aF.below b3 k4 b3.lt) k5 (aF.below b3 k4 b3.lt).lt;have B4:=aF.below b4 k5 b4.lt;rw[e3]at B4;rw[e4]at b5;rw[hg3]at B3;have OZ:=xh o5
 have NQ:=xh (show ∀g,w.heap.size<=g->g∉y.fp from λg hg hm=>by
  obtain⟨c,A,z⟩:=h;have:=A.lt _ hm;omega)
 have KW:=xh (LB (g3:=g3) (g4:=g3+1) (g5:=g3+2) (h.below OZ.o) hb (by omega) p he);have cl:=B3.ab (i:=0) rfl;have c4:=B4.ab (i:=0) rfl;have c5:=b5.ab (i:=0) rfl;have Ta:¬(232:Int)<(b.size:Int):=by omega
 generalize (q.aZ p).2.2=RR at *;generalize (q.aZ p).1=SS at *;clear h hb he Ux hs b3 b4 b5 B3 B4 o3 o4 o5 e3 e4 k4 k5;unfold pp at *;go_enter func176,ntmps176;go_wp2_with fail;refine KW.o.mono ?_;rintro e w1 ⟨rfl,A1,o1⟩;have A1:=xh A1;have o1:=xh ((ag.ai (S:=y.fp) OZ.o).trans o1);go_wp2_with fail;go_ret;exact aP ⟨A1.o,o1.o⟩
theorem UA(p:Int)(b:ByteArray)(hs:232<b.size):
  Calls prog 176 #[pp y.pb,.int .i64 p,.string b] w λe w'=>e=.returned (.int .i64 4)/\Below w.heap.size w w':=by
 have OZ:=xh (ae (ae (ae (Below.refl w.heap.size w) (.cells #[pp y.pb] 34)) (.cells #[.int .i64 p] 3)) (.cells #[.string b] 9));have Ta:(232:Int)<(b.size:Int):=by omega
 clear hs;unfold pp at *;go_enter func176,ntmps176;go_wp2_with fail;go_ret;exact aP OZ.o
end Sh
namespace Sh
open Go.RowKit Pk Dk Pg
section
variable{c:C}{n:Nat}{a:St}{K:Nat}
theorem Zc.full(z:Zc c n a K):Full a:=by
 intro l
 by_cases h:(a.aK l).2=0
 .have hr:=z.read l;rw[vD z.g]at hr;rw[<-hr]at h ⊢;exact qP (Ha z.g h)
 .unfold St.aK at h ⊢
  cases ha:a.at l with
  |none=>exact bf _
  |some u=>rw[ha]at h;exact absurd rfl h
theorem Zc.tl(z:Zc c n a K)(h:a.now.length<=512):c.table.length<=512:=by
 obtain⟨k,e⟩:=z.e;rw[e]at h;have h2:((c.bP n).pad k).now.length=c.table.length+k:=by
  unfold St.pad C.bP;simp
 omega
end
structure Hq(q:QS)(n K:Nat):Prop where
 z:∃c,Zc c n q.a K
 f:Fb q.l K
 l1:1<=q.l.length
 l2:q.l.length<=32
 lh:q.hand<q.l.length
 nl:q.a.now.length<=512
section
variable{q:QS}{n K:Nat}
theorem Hq.full(h:Hq q n K):Full q.a:=by
 obtain⟨c,z⟩:=h.z;exact z.full
theorem Hq.more(h:Hq q n K){K':Nat}(hk:K<=K'):Hq q n K':=by
 obtain⟨c,z⟩:=h.z;exact⟨⟨c,z.more hk⟩,h.f.more hk,h.l1,h.l2,h.lh,h.nl⟩
theorem Hq.Fy(h:Hq q n K){q':QS}{K':Nat}(ha:q'.a=q.a)(hk:K<=K')(hf:Fb q'.l K')(hl:q'.l.length=q.l.length)(hh:q'.hand<q.l.length):Hq q' n K':=by
 obtain⟨c,z⟩:=h.z;exact⟨⟨c,by rw[ha];exact z.more hk⟩,hf,by rw[hl];exact h.l1,by rw[hl];exact h.l2,by rw[hl];exact hh,by rw[ha];exact h.nl⟩
theorem Db(a:St)(l:Int)(p:List UInt8):(a.aA l p).1.now.length=a.now.length:=by
 unfold St.aA
 split
 .rfl
 .split
  .rfl
  .split
   .rfl
   .show(a.now.set _ _).length=_;rw[bW]
theorem Hq.UB(h:Hq q n K):Hq q.aH.1 n K/\(q.aH.2= -1\/∃k:Nat,q.aH.2=k/\k<q.l.length):=by
 obtain⟨v1,v2,v3⟩:=sO q h.lh h.f;have va:=iH q;exact⟨h.Fy va.1 (Nat.le_refl _) v1 va.2 (by rw[<-va.2];exact v2),v3⟩
theorem Qy(q:QS)(k:Nat):(q.bI k).1.hand=q.hand:=by
 unfold QS.bI
 split
 .split<;>rfl
 .rfl
theorem UC(q:QS)(k:Nat):(q.bI k).1.a.now.length=q.a.now.length:=by
 unfold QS.bI
 split
 .split
  .exact Db _ _ _
  .exact Db _ _ _
 .rfl
theorem Hq.back(h:Hq q n K)(k:Nat)(hk:k<q.l.length):Hq (q.bI k).1 n (K+1):=by
 obtain⟨b1,b2⟩:=vQ h.f hk;obtain⟨c,z⟩:=h.z;refine⟨?_,b1.more (by omega),by rw[b2];exact h.l1,by rw[b2];exact h.l2,by rw[b2,Qy];exact h.lh,by rw[UC];exact h.nl⟩;unfold QS.bI
 split
 .split
  .exact⟨_,(z.write _ _).1⟩
  .exact⟨_,(z.write _ _).1⟩
 .exact⟨c,z.more (by omega)⟩
theorem Hq.put(h:Hq q n K)(k:Nat){f:Fr}(hf:0<=f.held/\f.held<=K/\f.fO.size<=1000):Hq {q with l:=q.l.set k f} n K:=
 h.Fy rfl (Nat.le_refl _) (h.f.set k hf) bW h.lh
theorem Hq.hold(h:Hq q n K)(p:Int):Hq (q.aZ p).1 n (K+1):=by
 unfold QS.aZ
 rcases fX q.l p with e|⟨k,f,e,hk,_,_⟩
 .rw[e,if_neg (by omega)]
  split
  .exact h.more (by omega)
  .obtain⟨v1,v3⟩:=h.UB;have va:=iH q
   split
   .exact v1.more (by omega)
   .rcases v3 with v3|⟨k,v3,hk⟩
    .omega
    .rw[v3,show((k:Nat):Int).toNat=k by omega];have hb:=v1.back k (by omega)
     split
     .exact hb
     .exact hb.put k ⟨by show(0:Int)<=1;omega,by show(1:Int)<=_;omega,Uv (h.full p)⟩
 .rw[e,if_pos (by omega),show((k:Nat):Int).toNat=k by omega,nr hk];have hm:=h.f _ (ay hk);exact(h.more (by omega)).put k ⟨by show 0<=f.held+1;omega,by show f.held+1<=_;omega,hm.2.2⟩
theorem Hq.let_(h:Hq q n K)(p:Int):Hq (q.gY p).1 n K:=by
 obtain⟨a,b,c,d⟩:=let_l h.f p;exact h.Fy c (Nat.le_refl _) a b (by rw[d];exact h.lh)
theorem Hq.set(h:Hq q n K)(p:Int)(b:ByteArray):Hq (q.fE p b).1 n K:=by
 obtain⟨a,e,c,d⟩:=set_l h.f p b;exact h.Fy c (Nat.le_refl _) a e (by rw[d];exact h.lh)
theorem Hq.get(h:Hq q n K)(p:Int):Hq (q.cU p).1 n (K+1):=by
 unfold QS.cU
 split
 .exact h.hold p
 .exact(h.hold p).let_ p
theorem Hq.put_(h:Hq q n K)(p:Int)(b:ByteArray):Hq (q.du p b).1 n (K+1):=by
 unfold QS.du
 split
 .exact h.more (by omega)
 .split
  .exact h.hold p
  .exact((h.hold p).set p b).let_ p
theorem UD(a:St)(l:Int):(a.aR l).1.now.length=a.now.length:=by
 unfold St.aR
 split
 .show(a.now.set _ _).length=_;rw[bW]
 .rfl
theorem Hq.drop(h:Hq q n K)(p:Int):Hq (q.aR p).1 n K:=by
 obtain⟨c,z⟩:=h.z;have hd:Hq {q with a:=(q.a.aR p).1} n K:=⟨⟨_,(z.drop p).1⟩,h.f,h.l1,h.l2,h.lh,by show(q.a.aR p).1.now.length<=512;rw[UD];exact h.nl⟩;unfold QS.aR
 split
 .exact h
 .split
  .exact hd
  .split
   .exact hd.put _ Fb.nil
   .exact hd
theorem Hq.xw(h:Hq q n K)(i:Int):Hq (q.eE i).1 n (K+1):=by
 unfold QS.eE
 split
 .exact h.more (by omega)
 .split
  .exact h.more (by omega)
  .split
   .exact h.more (by omega)
   .split
    .exact h.back _ (by omega)
    .exact(h.back _ (by omega)).put _ Fb.nil
theorem q8(q:QS)(i:Nat):q.aT (i+1)=if(q.aT i).2≠0 then q.aT i else(q.aT i).1.bI i:=rfl
theorem Hq.xx(h:Hq q n K):∀i,i<=q.l.length->Hq (q.aT i).1 n (K+i)/\(q.aT i).1.l.length=q.l.length
 |0,_=>⟨h,rfl⟩
 |i+1,hi=>by
  obtain⟨h1,h2⟩:=h.xx i (by omega);rw[q8]
  split
  .exact⟨h1.more (by omega),h2⟩
  .exact⟨h1.back i (by omega),by rw[(vQ h1.f (by omega)).2,h2]⟩
theorem old_len(a:St):(gl a.bQ).length=a.bQ.length:=by unfold gl;rw[eM]
theorem LC(a:St)(h:a.now.length<=512):a.aE.1.now.length<=512:=by
 unfold St.aE
 split
 .exact h
 .show(gl a.dH).length<=512;unfold gl;rw[eM];have:=zJ a;omega
theorem Hq.j0(h:Hq q n K)(hK:K<=999999999000):Hq q.aE.1 n (K+40):=by
 unfold QS.aE;obtain⟨b1,b2⟩:=h.xx q.l.length (Nat.le_refl _);have l2:=h.l2
 split
 .exact h.more (by omega)
 .split
  .exact b1.more (by omega)
  .obtain⟨c,z⟩:=b1.z;have zc:=(z.j0 (z.tl b1.nl) (by omega)).1;exact⟨⟨_,zc.more (by omega)⟩,b1.f.more (by omega),b1.l1,b1.l2,b1.lh,LC _ b1.nl⟩
theorem Hq.abort(h:Hq q n K):Hq q.bY n K:=by
 obtain⟨c,z⟩:=h.z;refine⟨⟨_,z.abort⟩,λf hf=>?_,by show 1<=(List.replicate _ _).length;rw[ev];exact h.l1,by show(List.replicate _ _).length<=32;rw[ev];exact h.l2,by show q.hand<(List.replicate _ _).length;rw[ev];exact h.lh,?_⟩
 .rw[ng hf];exact Fb.nil
 .show(gl q.a.bQ).length<=512;rw[old_len];obtain⟨k,e⟩:=z.e;have:=z.bQ;rw[e];show(c.bQ.map _).length<=512;rw[eM];exact this
theorem new_len(a:St)(p:List UInt8)(h:a.now.length<=512):(a.bJ p).1.now.length<=512:=by
 unfold St.bJ
 split
 .exact h
 .split
  .exact h
  .rename_i hs;show(nF a.now a.slot _).length<=512;unfold nF
   split
   .rw[aO];simp;omega
   .rw[bW];exact h
theorem Hq.new(h:Hq q n K)(p:List UInt8):Hq (q.bJ p).1 n (K+1):=by
 obtain⟨c,z⟩:=h.z;exact⟨⟨_,(z.new p).1⟩,h.f.more (by omega),h.l1,h.l2,h.lh,new_len _ _ h.nl⟩
end
theorem j8{α β:Type}(l:List α)(g:α->β)(k:Nat){a b:α}(h:l[k]?=some b)(e:g a=g b):(l.set k a).map g=l.map g:=by
 rw[qL];apply mq;intro i;rw[iy];have hk:=(aM.1 h).1
 split
 .rename_i hi;subst hi;rw[if_pos (by simpa using hk),ic,h,e];rfl
 .rfl
theorem Hy{a:St}{p:Int}(h:(a.aK p).2=0):0<=p:=by
 by_cases hp:0<=p
 .exact hp
 .exfalso;unfold St.aK St.at at h;rw[if_neg hp]at h;exact absurd h (by decide)
variable{a:St}{l l':List Fr}{k:Nat}{f:Fr}{j:Int}
theorem ia{l:Int}(h:(a.at l).isSome=true):0<=l/\l.toNat<a.now.length:=by
 unfold St.at at h
 by_cases h0:0<=l
 .rw[if_pos h0]at h;refine⟨h0,?_⟩
  by_cases hl:l.toNat<a.now.length
  .exact hl
  .rw[fG (by omega)]at h
   cases h
 .rw[if_neg h0]at h;cases h
theorem mW{l:Int}:(a.aK l).2=0↔(a.at l).isSome=true:=by
 unfold St.aK
 cases h:a.at l with
 |none=>simp
 |some u=>simp
theorem mu{l:Int}{p:List UInt8}(h:(a.aA l p).2=0)(j:Int):(a.aA l p).1.aK j=if j=l then(eO p 232,0)else a.aK j:=by
 unfold St.aA at h ⊢
 by_cases h1:232<p.length
 .rw[if_pos h1]at h;exact absurd h (by show(4:Int)≠0;decide)
 rw[if_neg h1]at h ⊢
 by_cases h2:¬(a.at l).isSome=true
 .rw[if_pos h2]at h;exact absurd h (by show(3:Int)≠0;decide)
 rw[if_neg h2]at h ⊢
 by_cases h3:cJ (a.at l)=false/\a.free=0
 .rw[if_pos h3]at h;exact absurd h (by show(11:Int)≠0;decide)
 rw[if_neg h3];obtain⟨l0,l1⟩:=ia (Classical.not_not.1 h2);have hat:St.at {a with now:=a.now.set l.toNat (some (true,eO p 232))} j=if j=l then some (true,eO p 232)else a.at j:=by
  unfold St.at
  by_cases hj:j=l
  .subst hj;rw[if_pos l0,if_pos rfl];show((a.now.set j.toNat _)[j.toNat]?).getD none=_;rw[dI l1];rfl
  .rw[if_neg hj]
   by_cases h0:0<=j
   .rw[if_pos h0,if_pos h0];show((a.now.set l.toNat _)[j.toNat]?).getD none=_;rw[fP (by omega)]
   .rw[if_neg h0,if_neg h0]
 show St.aK {a with now:=a.now.set l.toNat (some (true,eO p 232))} j=_;unfold St.aK;rw[hat]
 by_cases hj:j=l
 .rw[if_pos hj,if_pos hj]
 .rw[if_neg hj,if_neg hj]
def QS.vw(q:QS)(j:Int):List UInt8×Int:=if 0<=findF q.l j then((im q.l (findF q.l j).toNat).fO.data.toList,0)else q.a.aK j
structure Vi(q:QS):Prop where
 un:∀(i j:Nat) (f h:Fr),q.l[i]?=some f->q.l[j]?=some h->f.an=h.an->0<=f.an->i=j
 cl:∀f∈q.l,0<=f.an->f.bX=false->q.a.aK f.an=(f.fO.data.toList,0)
 ex:∀f∈q.l,0<=f.an->(q.a.aK f.an).2=0
 em:∀f∈q.l,f.an<0->f.bX=false
 fl:∀f∈q.l,0<=f.an->f.fO.size=232
theorem Fz(hf:l[k]?=some f)(h0:0<=f.an)(un:∀(j:Nat) (h:Fr),l[j]?=some h->h.an=f.an->j=k):findF l f.an=k:=by
 unfold findF;rw[if_neg (by omega)];exact ub hf (by simp) (λj a hj hja=>by
  simp only[decide_eq_false_iff_not];intro e;have:=un j a hja e;omega)
theorem UE(h:j<0\/∀f∈l,f.an≠j):findF l j= -1:=by
 unfold findF
 by_cases h0:j<0
 .rw[if_pos h0]
 .rw[if_neg h0];exact zx (λi a hi=>by
   simp only[decide_eq_false_iff_not];exact h.resolve_left h0 a (ay hi))
theorem eA{q:QS}(h:j<0\/∀f∈q.l,f.an≠j):q.vw j=q.a.aK j:=by
 unfold QS.vw;rw[UE h,if_neg (by omega)]
theorem Vi.jc{q:QS}(V:Vi q)(hf:q.l[k]?=some f)(h0:0<=f.an):q.vw f.an=(f.fO.data.toList,0):=by
 unfold QS.vw;rw[Fz hf h0 (λj h hj e=>V.un j k h f hj hf e (by omega)),if_pos (by omega),show((k:Nat):Int).toNat=k by omega,nr hf]
theorem fY(q:QS)(j:Int):(j<0\/∀f∈q.l,f.an≠j)\/∃(k:Nat) (f:Fr),q.l[k]?=some f/\f.an=j/\0<=j:=by
 by_cases h0:j<0
 .exact .inl (.inl h0)
 by_cases h:∃f∈q.l,f.an=j
 .obtain⟨f,hf,e⟩:=h;obtain⟨k,hk⟩:=ym.1 hf;exact .inr ⟨k,f,hk,e,by omega⟩
 .exact .inl (.inr (λf hf e=>h ⟨f,hf,e⟩))
def pd(f:Fr):Int×ByteArray×Bool:=(f.an,f.fO,f.bX)
theorem FA(e:l'.map pd=l.map pd)(hf:l[k]?=some f):∃f',l'[k]?=some f'/\f'.an=f.an/\f'.fO=f.fO/\f'.bX=f.bX:=by
 have:(l'.map pd)[k]?=(l.map pd)[k]?:=by rw[e]
 rw[ic,ic,hf]at this
 cases h':l'[k]? with
 |none=>rw[h']at this;cases this
 |some f'=>
  rw[h']at this;have:pd f'=pd f:=by simpa using this
  exact⟨f',rfl,congrArg Prod.fst this,congrArg (λx=>x.2.1) this,congrArg (λx=>x.2.2) this⟩
theorem zU(e:l'.map pd=l.map pd)(hf:f∈l):∃f'∈l',f'.an=f.an/\f'.fO=f.fO/\f'.bX=f.bX:=by
 obtain⟨k,hk⟩:=ym.1 hf;obtain⟨f',h1,h2⟩:=FA e hk;exact⟨f',ay h1,h2⟩
theorem Vi.pd{q q':QS}(V:Vi q)(ea:q'.a=q.a)(e:q'.l.map Sh.pd=q.l.map Sh.pd):Vi q'/\∀j,q'.vw j=q.vw j:=by
 have V':Vi q':=by
  refine⟨λi j f h hf hh ep h0=>?_,λf hf h0 hd=>?_,λf hf h0=>?_,λf hf h0=>?_,λf hf h0=>?_⟩
  .obtain⟨f',a1,a2,_⟩:=FA e.symm hf;obtain⟨h',b1,b2,_⟩:=FA e.symm hh;exact V.un i j f' h' a1 b1 (by omega) (by omega)
  .obtain⟨f',a1,a2,a3,a4⟩:=zU e.symm hf;rw[ea,<-a2,<-a3];exact V.cl f' a1 (by omega) (by rw[a4];exact hd)
  .obtain⟨f',a1,a2,_⟩:=zU e.symm hf;rw[ea,<-a2];exact V.ex f' a1 (by omega)
  .obtain⟨f',a1,a2,_,a4⟩:=zU e.symm hf;rw[<-a4];exact V.em f' a1 (by omega)
  .obtain⟨f',a1,a2,a3,_⟩:=zU e.symm hf;rw[<-a3];exact V.fl f' a1 (by omega)
 refine⟨V',λj=>?_⟩
 rcases fY q j with h|⟨k,f,hf,rfl,h0⟩
 .rw[eA h,eA (h.imp id (λh f hf=>by
   obtain⟨f',a1,a2,_⟩:=zU e.symm hf;rw[<-a2];exact h f' a1)),ea]
 .obtain⟨f',a1,a2,a3,_⟩:=FA e hf;rw[V.jc hf h0,<-a2,V'.jc a1 (by omega),a3]
theorem mem_set{g:Fr}(h:f∈l.set k g):f=g\/∃i,i≠k/\l[i]?=some f:=by
 obtain⟨i,hi⟩:=ym.1 h
 by_cases uT:i=k
 .subst uT;rw[iy]at hi
  split at hi
  .split at hi
   .injection hi with hi;exact .inl hi.symm
   .cases hi
  .rename_i h;exact absurd rfl h
 .rw[fP (by omega)]at hi;exact .inr ⟨i,uT,hi⟩
theorem uj{b:ByteArray}(h:b.size=232):eO b.data.toList 232=b.data.toList:=by
 have hl:b.data.toList.length=b.size:=by simp
 unfold eO;rw[hl,h];simp
theorem Vi.wrote{q:QS}(V:Vi q)(hf:q.l[k]?=some f)(h0:0<=f.an)(hw:(q.a.aA f.an f.fO.data.toList).2=0):
  Vi {q with a:=(q.a.aA f.an f.fO.data.toList).1,l:=q.l.set k {f with bX:=false}}/\∀j,QS.vw {q with a:=(q.a.aA f.an f.fO.data.toList).1,l:=q.l.set k {f with bX:=false}} j=q.vw j:=by
 have hr:=mu hw;have hp:=uj (V.fl f (ay hf) h0);have hk:=(aM.1 hf).1;have ne:∀(i:Nat) (h:Fr),i≠k->q.l[i]?=some h->h.an≠f.an:=λi h hi hh e=>hi (V.un i k h f hh hf e (by omega));have V':Vi {q with a:=(q.a.aA f.an f.fO.data.toList).1,l:=q.l.set k {f with bX:=false}}:=by
  refine⟨λi j g h hg hh ep R6=>?_,λg hg R6 hd=>?_,λg hg R6=>?_,λg hg R6=>?_,λg hg R6=>?_⟩
  .have gt:∀(i:Nat) (g:Fr),(q.l.set k {f with bX:=false})[i]?=some g->∃g',q.l[i]?=some g'/\g'.an=g.an:=λi g hg=>by
    by_cases uT:i=k
    .subst uT;rw[dI hk]at hg;injection hg with hg
     exact⟨f,hf,by rw[<-hg]⟩
    .rw[fP (by omega)]at hg;exact⟨g,hg,rfl⟩
   obtain⟨g',a1,a2⟩:=gt i g hg;obtain⟨h',b1,b2⟩:=gt j h hh;exact V.un i j g' h' a1 b1 (by omega) (by omega)
  .show(q.a.aA f.an f.fO.data.toList).1.aK g.an=_
   rcases mem_set hg with rfl|⟨i,hi,UF⟩
   .rw[hr,if_pos rfl,hp]
   .rw[hr,if_neg (ne i g hi UF)];exact V.cl g (ay UF) R6 hd
  .show((q.a.aA f.an f.fO.data.toList).1.aK g.an).2=0
   rcases mem_set hg with rfl|⟨i,hi,UF⟩
   .rw[hr,if_pos rfl]
   .rw[hr,if_neg (ne i g hi UF)];exact V.ex g (ay UF) R6
  .rcases mem_set hg with rfl|⟨i,hi,UF⟩
   .rfl
   .exact V.em g (ay UF) R6
  .rcases mem_set hg with rfl|⟨i,hi,UF⟩
   .exact V.fl f (ay hf) h0
   .exact V.fl g (ay UF) R6
 refine⟨V',λj=>?_⟩
 rcases fY q j with h|⟨i,g,hg,rfl,R6⟩
 .rw[eA h,eA (h.imp id (λh g hg=>by
   rcases mem_set hg with rfl|⟨i,hi,UF⟩
   .exact h f (ay hf)
   .exact h g (ay UF)))]
  show(q.a.aA f.an f.fO.data.toList).1.aK j=_;rw[hr,if_neg];intro e
  rcases h with h|h
  .omega
  .exact h f (ay hf) e.symm
 .rw[V.jc hg R6]
  by_cases uT:i=k
  .subst uT;have:g=f:=by rw[hg]at hf;injection hf
   subst this;exact V'.jc (k:=i) (f:={g with bX:=false}) (by show(q.l.set i _)[i]?=_;rw[dI hk]) R6
  .exact V'.jc (k:=i) (f:=g) (by show(q.l.set k _)[i]?=_;rw[fP (by omega)];exact hg) R6
theorem Vi.swap{q:QS}(V:Vi q)(hf:q.l[k]?=some f)(hd:f.bX=false)(g:Fr)(hg:g=Fr.nil\/(0<=g.an/\g.bX=false/\(∀h∈q.l,h.an≠g.an)/\q.a.aK g.an=(g.fO.data.toList,0)/\g.fO.size=232)):
  Vi {q with l:=q.l.set k g}/\∀j,QS.vw {q with l:=q.l.set k g} j=q.vw j:=by
 have hk:=(aM.1 hf).1;have hgp:g.an<0\/0<=g.an:=by omega
 have gn:g.an<0->g=Fr.nil:=λh=>hg.resolve_right (λh'=>by omega);have gp:0<=g.an->g.bX=false/\(∀h∈q.l,h.an≠g.an)/\q.a.aK g.an=(g.fO.data.toList,0)/\g.fO.size=232:=λh=>by
  rcases hg with rfl|hg
  .exact absurd h (by decide)
  .exact hg.2
 have V':Vi {q with l:=q.l.set k g}:=by
  refine⟨λi j f1 h1 oK hh1 ep h0=>?_,λf1 oK h0 uS=>?_,λf1 oK h0=>?_,λf1 oK h0=>?_,λf1 oK h0=>?_⟩
  .have gt:∀(i:Nat) (x:Fr),(q.l.set k g)[i]?=some x->(i=k/\x=g)\/(i≠k/\q.l[i]?=some x):=λi x hx=>by
    by_cases uT:i=k
    .subst uT;rw[dI hk]at hx;injection hx with hx
     exact .inl ⟨rfl,hx.symm⟩
    .rw[fP (by omega)]at hx;exact .inr ⟨uT,hx⟩
   rcases gt i f1 oK with⟨rfl,rfl⟩|⟨hi,oq⟩
   .rcases gt j h1 hh1 with⟨rfl,rfl⟩|⟨hj,hj'⟩
    .rfl
    .exact absurd ep.symm ((gp h0).2.1 h1 (ay hj'))
   .rcases gt j h1 hh1 with⟨rfl,rfl⟩|⟨hj,hj'⟩
    .exact absurd ep ((gp (by omega)).2.1 f1 (ay oq))
    .exact V.un i j f1 h1 oq hj' ep h0
  .rcases mem_set oK with rfl|⟨i,hi,oq⟩
   .exact(gp h0).2.2.1
   .exact V.cl f1 (ay oq) h0 uS
  .show(q.a.aK f1.an).2=0
   rcases mem_set oK with rfl|⟨i,hi,oq⟩
   .rw[(gp h0).2.2.1]
   .exact V.ex f1 (ay oq) h0
  .rcases mem_set oK with rfl|⟨i,hi,oq⟩
   .rw[gn h0];rfl
   .exact V.em f1 (ay oq) h0
  .rcases mem_set oK with rfl|⟨i,hi,oq⟩
   .exact(gp h0).2.2.2
   .exact V.fl f1 (ay oq) h0
 refine⟨V',λj=>?_⟩
 by_cases hjg:0<=g.an/\g.an=j
 .obtain⟨h0,rfl⟩:=hjg;rw[V'.jc (k:=k) (f:=g) (by show(q.l.set k g)[k]?=_;rw[dI hk]) h0,eA (.inr (gp h0).2.1)];exact(gp h0).2.2.1.symm
 rcases fY q j with h|⟨i,f1,oK,rfl,h0⟩
 .rw[eA h,eA (q:={q with l:=q.l.set k g})]
  by_cases hj:j<0
  .exact .inl hj
  .refine .inr (λf1 oK=>?_)
   rcases mem_set oK with rfl|⟨i,hi,oq⟩
   .intro e;exact hjg ⟨by omega,e⟩
   .exact h.resolve_left hj f1 (ay oq)
 .rw[V.jc oK h0]
  by_cases uT:i=k
  .subst uT;have:f1=f:=by rw[oK]at hf;injection hf
   subst this;rw[eA (q:={q with l:=q.l.set i g}) (.inr (λx hx=>by
    rcases mem_set hx with rfl|⟨i',hi,oq⟩
    .intro e;exact hjg ⟨by omega,e⟩
    .intro e;exact hi (V.un i' i x f1 oq oK e (by omega))))]
   exact V.cl f1 (ay oK) h0 hd
  .exact V'.jc (k:=i) (f:=f1) (by show(q.l.set k g)[i]?=_;rw[fP (by omega)];exact oK) h0
variable{l l':List Fr}{p j:Int}{n K k:Nat}{a:St}{f:Fr}
theorem LF(m:Nat)(s:QS):s.jF (m+1)=if 0<(im s.l s.hand).held then s.turn.jF m else if(im s.l s.hand).used=true then QS.jF m {s.turn with l:=s.l.set s.hand {im s.l s.hand with used:=false}}else(s.turn,(s.hand:Int)):=rfl
theorem zV(h:findF l p= -1)(h0:0<=p):∀f∈l,f.an≠p:=by
 intro f hf e;unfold findF at h;rw[if_neg (by omega)]at h;unfold Gs at h
 split at h
 .omega
 .rename_i hn;exact hn (JT.2 ⟨f,hf,by simpa using e⟩)
theorem UG{q:QS}(H:Hq q n K)(p:Int)(b:ByteArray)(hb:b.size<=232)(h0:(q.aZ p).2.2=0):((q.aZ p).1.fE p b).2=0:=by
 have key:∀(q':QS) (k:Nat) (f:Fr),findF q'.l p=k->q'.l[k]?=some f->f.held≠0->(q'.fE p b).2=0:=λq' k f e hf hn=>by
  unfold QS.fE QS.gX;rw[if_neg (by omega),e,if_neg (by omega),show((k:Nat):Int).toNat=k by omega,hf];dsimp only;rw[if_neg hn]
 have hit:∀(l:List Fr) (k:Nat) (f:Fr),l[k]?=some f->f.an=p->0<=p->(∀(j:Nat) (a:Fr),j<k->l[j]?=some a->a.an≠p)->findF l p=k:=λl k f hf e h0 ha=>by
  unfold findF;rw[if_neg (by omega)];exact ub hf (by simpa using e) (λj a hj hja=>by simpa using ha j a hj hja)
 unfold QS.aZ at h0 ⊢
 rcases fX q.l p with e|⟨k,f,e,hk,he,hp⟩
 .rw[e,if_neg (by omega)]at h0 ⊢
  by_cases hr:(q.a.aK p).2≠0
  .rw[if_pos hr]at h0;exact absurd h0 hr
  rw[if_neg hr]at h0 ⊢;have hp:0<=p:=by
   by_cases hp:0<=p
   .exact hp
   .exfalso;apply hr;unfold St.aK St.at;rw[if_neg hp];decide
  obtain⟨v1,v3⟩:=H.UB;have va:=iH q
  by_cases hv:q.aH.2<0
  .rw[if_pos hv]at h0;exact absurd h0 (by show(12:Int)≠0;decide)
  rw[if_neg hv]at h0 ⊢
  rcases v3 with v3|⟨k,v3,kE⟩
  .omega
  rw[v3,show((k:Nat):Int).toNat=k by omega]at h0 ⊢
  by_cases dn:(q.aH.1.bI k).2≠0
  .rw[if_pos dn]at h0;exact absurd h0 dn
  rw[if_neg dn];have Km:∀f∈q.l,f.an≠p:=zV e hp;have jK:(q.aH.1.bI k).1.l.map Fr.an=q.l.map Fr.an:=by
   have sp:∀(m:Nat) (s:QS),s.hand<s.l.length->(s.jF m).1.l.map Fr.an=s.l.map Fr.an:=by
    intro m
    induction m with
    |zero=>intro s _;rfl
    |succ m ih=>
     intro s hs;rw[LF];have ht:s.turn.hand<s.turn.l.length:=qR _ (by show 0<s.l.length;omega)
     split
     .exact ih s.turn ht
     .split
      .have hx:=ih {s.turn with l:=s.l.set s.hand {im s.l s.hand with used:=false}} (by show s.turn.hand<(s.l.set _ _).length;rw[bW];exact ht);rw[hx];show(s.l.set s.hand _).map Fr.an=_;rw[qL];apply mq;intro i;rw[iy]
       split
       .rename_i hi;subst hi;rw[if_pos (by simpa using hs),ic,jt hs];rfl
       .rfl
      .rfl
   have bp:(q.aH.1.bI k).1.l.map Fr.an=q.aH.1.l.map Fr.an:=by
    have hkv:k<q.aH.1.l.length:=by omega
    unfold QS.bI
    split
    .split
     .show(q.aH.1.l.set k _).map Fr.an=_;rw[qL];apply mq;intro i;rw[iy]
      split
      .rename_i hi;subst hi;rw[if_pos (by simpa using hkv),ic,jt hkv];rfl
      .rfl
     .rfl
    .rfl
   rw[bp];unfold QS.aH
   split
   .rfl
   .exact sp _ q H.lh
  have rY:=(vQ (k:=k) v1.f (by omega)).2;refine key _ k ⟨p,⟨(q.a.aK p).1.toArray⟩,1,false,true⟩ (hit _ k ⟨p,⟨(q.a.aK p).1.toArray⟩,1,false,true⟩ (by rw[dI (by omega)]) rfl hp (λj a hj hja=>?_)) (by rw[dI (by omega)]) (by show(1:Int)≠0;decide);rw[fP (by omega)]at hja;have hm:a.an∈q.l.map Fr.an:=by rw[<-jK];exact qM (ay hja)
  obtain⟨f',hf',e'⟩:=dm.1 hm;rw[<-e'];exact Km f' hf'
 .rw[e,if_pos (by omega),show((k:Nat):Int).toNat=k by omega,nr hk];have kE:k<q.l.length:=(aM.1 hk).1;have hfb:=H.f f (ay hk);refine key _ k {f with held:=f.held+1,used:=true} (hit _ k {f with held:=f.held+1,used:=true} (by rw[dI kE]) he hp (λj a hj hja=>?_)) (by rw[dI kE]) (by show f.held+1≠0;omega);rw[fP (by omega)]at hja;intro ea;have:findF q.l p=j\/findF q.l p<k:=by
   right;unfold findF;rw[if_neg (by omega)];unfold Gs;have hj2:=(aM.1 hja);obtain⟨hjl,hje⟩:=hj2;have hle:q.l.findIdx (λf=>decide (f.an=p))<=j:=by
    by_cases h:q.l.findIdx (λf=>decide (f.an=p))<=j
    .exact h
    .have:=Ep (p:=λf=>decide (f.an=p)) (xs:=q.l) (i:=j) (by omega);rw[hje]at this;simp[ea]at this
   rw[if_pos (by omega)];omega
  omega
def LG(f:Fr):Int×ByteArray×Bool×Int:=(f.an,f.fO,f.bX,f.held)
theorem pdh_pd(e:l'.map LG=l.map LG):l'.map Sh.pd=l.map Sh.pd:=by
 have h:∀l:List Fr,l.map Sh.pd=(l.map LG).map (λx=>(x.1,x.2.1,x.2.2.1)):=λl=>by rw[jR];rfl
 rw[h,h,e]
theorem Hz(e:l'.map LG=l.map LG)(h:∀f∈l,f.held=0):∀f∈l',f.held=0:=λf hf=>by
 have:LG f∈l.map LG:=by rw[<-e];exact qM hf
 obtain⟨f',h1,h2⟩:=dm.1 this;have h3:f'.held=f.held:=congrArg (λx=>x.2.2.2) h2;rw[<-h3];exact h f' h1
theorem LH(s:QS)(hl:s.hand<s.l.length)(hh:∀f∈s.l,f.held=0):∀m,s.l.countP Fr.used<m->∃k:Nat,(s.jF m).2=k/\k<s.l.length/\(s.jF m).1.l.map LG=s.l.map LG:=by
 intro m
 induction m generalizing s with
 |zero=>intro h;omega
 |succ m ih=>
  intro hm;have hf:=jt hl;have h0:=hh _ (ay hf);have ht:(s.hand+1) % s.l.length<s.l.length:=qR _ (by omega);rw[LF,if_neg (by omega)]
  by_cases hu:(im s.l s.hand).used=true
  .rw[if_pos hu];have E9:(s.l.set s.hand {im s.l s.hand with used:=false}).map LG=s.l.map LG:=j8 s.l LG s.hand hf rfl;have hlen:(s.l.set s.hand {im s.l s.hand with used:=false}).length=s.l.length:=bW ..;have hc:(s.l.set s.hand {im s.l s.hand with used:=false}).countP Fr.used<s.l.countP Fr.used:=by
    rw[List.countP_set hl];have e:s.l[s.hand]=im s.l s.hand:=by unfold im;rw[aG hl];rfl
    have hp:0<s.l.countP Fr.used:=List.countP_pos_iff.2 ⟨_,kt hl,by rw[e];exact hu⟩;rw[e];simp[hu];omega
   obtain⟨k,h1,h2,h3⟩:=ih {s.turn with l:=s.l.set s.hand {im s.l s.hand with used:=false}} (by rw[hlen];exact ht)
    (λf Ch=>(yn Ch).elim (hh f) (λe=>by rw[e];exact h0)) (by show List.countP _ (s.l.set _ _)<m;omega)
   rw[hlen]at h2;exact⟨k,h1,h2,h3.trans E9⟩
  .rw[if_neg hu];exact⟨s.hand,rfl,hl,rfl⟩
theorem FC(s:QS)(hl:s.hand<s.l.length)(hh:∀f∈s.l,f.held=0):∃k:Nat,s.aH.2=k/\k<s.l.length/\s.aH.1.l.map LG=s.l.map LG:=by
 unfold QS.aH
 rcases Ff (λf=>decide (f.an<0)) s.l with e|⟨k,f,e,hf,_⟩
 .rw[e,if_neg (by omega)];exact LH s hl hh _ (by have:=uX (p:=Fr.used) (l:=s.l);omega)
 .rw[e,if_pos (by omega)];exact⟨k,rfl,(aM.1 hf).1,rfl⟩
theorem Zc.len{c:C}(z:Zc c n a K){l:Int}(h:(a.aK l).2=0):(a.aK l).1.length=232:=by
 have hr:=z.read l;rw[vD z.g]at hr;rw[<-hr]at h ⊢;exact Ha z.g h
theorem ba_eta(b:ByteArray):(⟨b.data.toList.toArray⟩:ByteArray)=b:=by simp
theorem Ia{q:QS}(V:Vi q)(hf:q.l[k]?=some f)(he:f.an=p)(h0:0<=p)(h1:f.held=1)(hN:∀(i:Nat) (h:Fr),i≠k->q.l[i]?=some h->h.held=0):
  (q.gY p).1.a=q.a/\Vi (q.gY p).1/\(∀j,(q.gY p).1.vw j=q.vw j)/\∀f∈(q.gY p).1.l,f.held=0:=by
 have kE:=(aM.1 hf).1;have e:findF q.l p=k:=by rw[<-he];exact Fz hf (by omega) (λj h hj ej=>V.un j k h f hj hf ej (by omega))
 have hE:(q.gY p).1={q with l:=q.l.set k {f with held:=f.held-1}}:=by
  unfold QS.gY QS.gX;rw[e,if_neg (by omega),show((k:Nat):Int).toNat=k by omega,hf];dsimp only;rw[if_neg (by omega)]
 rw[hE];obtain⟨V1,w1⟩:=V.pd (q':={q with l:=q.l.set k {f with held:=f.held-1}}) rfl (j8 q.l Sh.pd k hf rfl);refine⟨rfl,V1,w1,λg hg=>?_⟩
 rcases mem_set hg with rfl|⟨i,hi,oq⟩
 .show f.held-1=0;omega
 .exact hN i g hi oq
theorem sP{q:QS}(N:∀f∈q.l,f.held=0):q.uh=0:=by
 unfold QS.uh;rw[JM];intro f hf;rw[N f hf];decide
theorem Vi.setp{q:QS}(V:Vi q)(hf:q.l[k]?=some f)(h0:0<=f.an)(g:Fr)(ep:g.an=f.an)(hd:g.bX=true)(hs:g.fO.size=232):
  Vi {q with l:=q.l.set k g}/\∀j,QS.vw {q with l:=q.l.set k g} j=if j=f.an then(g.fO.data.toList,0)else q.vw j:=by
 have hk:=(aM.1 hf).1;have gt:∀(i:Nat) (x:Fr),(q.l.set k g)[i]?=some x->∃x',q.l[i]?=some x'/\x'.an=x.an:=λi x hx=>by
  by_cases uT:i=k
  .subst uT;rw[dI hk]at hx;injection hx with hx
   exact⟨f,hf,by rw[<-hx,ep]⟩
  .rw[fP (by omega)]at hx;exact⟨x,hx,rfl⟩
 have V':Vi {q with l:=q.l.set k g}:=by
  refine⟨λi j f1 h1 oK hh1 e1 R8=>?_,λf1 oK R8 uS=>?_,λf1 oK R8=>?_,λf1 oK R8=>?_,λf1 oK R8=>?_⟩
  .obtain⟨f',a1,a2⟩:=gt i f1 oK;obtain⟨h',b1,b2⟩:=gt j h1 hh1;exact V.un i j f' h' a1 b1 (by omega) (by omega)
  .rcases mem_set oK with rfl|⟨i,hi,oq⟩
   .rw[hd]at uS;cases uS
   .exact V.cl f1 (ay oq) R8 uS
  .show(q.a.aK f1.an).2=0
   rcases mem_set oK with rfl|⟨i,hi,oq⟩
   .rw[ep];exact V.ex f (ay hf) h0
   .exact V.ex f1 (ay oq) R8
  .rcases mem_set oK with rfl|⟨i,hi,oq⟩
   .omega
   .exact V.em f1 (ay oq) R8
  .rcases mem_set oK with rfl|⟨i,hi,oq⟩
   .exact hs
   .exact V.fl f1 (ay oq) R8
 refine⟨V',λj=>?_⟩
 by_cases hj:j=f.an
 .subst hj;rw[if_pos rfl,<-ep];exact V'.jc (k:=k) (f:=g) (by show(q.l.set k g)[k]?=_;rw[dI hk]) (by omega)
 .rw[if_neg hj]
  rcases fY q j with h|⟨i,f1,oK,rfl,R8⟩
  .rw[eA h,eA (q:={q with l:=q.l.set k g}) (h.imp id (λh x hx=>by
    rcases mem_set hx with rfl|⟨i,hi,oq⟩
    .rw[ep];exact h f (ay hf)
    .exact h x (ay oq)))]
  .rw[V.jc oK R8];refine V'.jc (k:=i) (f:=f1) ?_ R8;have uT:i≠k:=λe=>by
    subst e;have:f1=f:=by rw[oK]at hf;injection hf
    exact hj (by rw[this])
   show(q.l.set k g)[i]?=_;rw[fP (by omega)];exact oK
theorem zW(l:List rN):∀(k i:Nat),jL l k<=i->i<k->(l[i]?).getD none=none
 |0,i,_,h=>absurd h (kZ i)
 |k+1,i,h1,h2=>by
  unfold jL at h1
  by_cases h:((l[k]?).getD none).isSome=true
  .rw[if_pos h]at h1;omega
  .rw[if_neg h]at h1
   by_cases hk:i=k
   .subst hk;simpa using h
   .exact zW l k i h1 (by omega)
theorem next_at(a:St)(j:Int):({a with now:=gl a.dH,bQ:=a.dH,ep:=a.ep+1}:St).at j=unfr (a.at j):=by
 unfold St.at
 by_cases h0:0<=j
 .rw[if_pos h0,if_pos h0];show((gl a.dH)[j.toNat]?).getD none=_;rw[Uj,ic,sy]
  by_cases h:j.toNat<jL a.now a.now.length
  .rw[if_pos h]
   cases hx:a.now[j.toNat]? with
   |none=>rfl
   |some u=>rfl
  .rw[if_neg h]
   by_cases hl:j.toNat<a.now.length
   .rw[zW a.now a.now.length j.toNat (by omega) hl];rfl
   .rw[fG (by omega)];rfl
 .rw[if_neg h0,if_neg h0];rfl
theorem mX(a:St)(j:Int):a.aE.1.aK j=a.aK j/\((a.aE.1.at j).isSome=(a.at j).isSome):=by
 unfold St.aE
 split
 .exact⟨rfl,rfl⟩
 .unfold St.aK;show(match St.at {a with now:=gl a.dH,bQ:=a.dH,ep:=a.ep+1} j with|some (_,b)=>(b,(0:Int))|none=>([],3))=_/\(St.at {a with now:=gl a.dH,bQ:=a.dH,ep:=a.ep+1} j).isSome=_;rw[next_at]
  cases a.at j with
  |none=>exact⟨rfl,rfl⟩
  |some u=>exact⟨rfl,rfl⟩
theorem Vi.j0{q:QS}(V:Vi q):Vi {q with a:=q.a.aE.1}/\∀j,QS.vw {q with a:=q.a.aE.1} j=q.vw j:=by
 refine⟨⟨V.un,λf hf h0 hd=>?_,λf hf h0=>?_,V.em,V.fl⟩,λj=>?_⟩
 .show q.a.aE.1.aK f.an=_;rw[(mX q.a _).1];exact V.cl f hf h0 hd
 .show(q.a.aE.1.aK f.an).2=0;rw[(mX q.a _).1];exact V.ex f hf h0
 .unfold QS.vw;show(if 0<=findF q.l j then _ else q.a.aE.1.aK j)=_;rw[(mX q.a j).1]
theorem LJ{q:QS}(V:Vi q)(hk:k<q.l.length):
  ((q.bI k).2=0/\(q.bI k).1.a.bQ=q.a.bQ/\Vi (q.bI k).1/\(∀j,(q.bI k).1.vw j=q.vw j)/\∃f,(q.bI k).1.l[k]?=some f/\f.bX=false/\(q.bI k).1.l.map Fr.held=q.l.map Fr.held/\(q.bI k).1.l.map Fr.an=q.l.map Fr.an)\/q.bI k=(q,11):=by
 have hf:=jt hk;unfold QS.bI
 by_cases hd:(im q.l k).bX=true
 .have h0:0<=(im q.l k).an:=by
   by_cases h:0<=(im q.l k).an
   .exact h
   .have:=V.em _ (ay hf) (by omega);rw[hd]at this;cases this
  rw[if_pos hd];have hx:=V.ex _ (ay hf) h0;have hl:=V.fl _ (ay hf) h0;have hw:(q.a.aA (im q.l k).an (im q.l k).fO.data.toList).2=0/\(q.a.aA (im q.l k).an (im q.l k).fO.data.toList).1.bQ=q.a.bQ\/q.a.aA (im q.l k).an (im q.l k).fO.data.toList=(q.a,11):=by
   unfold St.aA;rw[if_neg (by simp[hl]),if_neg (by rw[mW]at hx;simp[hx])]
   split
   .exact .inr rfl
   .exact .inl ⟨rfl,rfl⟩
  rcases hw with⟨hw,ho⟩|hw
  .rw[if_pos hw];obtain⟨V',hv⟩:=V.wrote hf h0 hw;exact .inl ⟨rfl,ho,V',hv,{im q.l k with bX:=false},by show(q.l.set k _)[k]?=_;rw[dI hk],rfl,j8 q.l Fr.held k hf rfl,j8 q.l Fr.an k hf rfl⟩
  .rw[hw,if_neg (by simp)];exact .inr rfl
 .rw[if_neg hd];exact .inl ⟨rfl,rfl,V,λj=>rfl,_,hf,by simpa using hd,rfl,rfl⟩
theorem back_d{q:QS}(hk:k<q.l.length)(h0:(q.bI k).2=0){i:Nat}(hf:(q.bI k).1.l[i]?=some f)(hd:f.bX=true):i≠k/\q.l[i]?=some f:=by
 have hk2:=jt hk;unfold QS.bI at h0 hf
 by_cases h1:(im q.l k).bX=true
 .rw[if_pos h1]at h0 hf
  by_cases h2:(q.a.aA (im q.l k).an (im q.l k).fO.data.toList).2=0
  .rw[if_pos h2]at hf;have hf:(q.l.set k {im q.l k with bX:=false})[i]?=some f:=hf
   by_cases e:i=k
   .subst e;rw[dI hk]at hf;injection hf with hf
    subst hf
    cases hd
   .rw[fP (by omega)]at hf;exact⟨e,hf⟩
  .rw[if_neg h2]at h0;exact absurd h0 h2
 .rw[if_neg h1]at hf;have hf:q.l[i]?=some f:=hf;refine⟨λe=>?_,hf⟩;subst e;rw[hk2]at hf;injection hf with hf
  rw[hf]at h1;exact h1 hd
theorem UH{q:QS}(H:Hq q n K)(V:Vi q)(N:∀f∈q.l,f.held=0)(p:Int):
  (q.aZ p).1.a.bQ=q.a.bQ/\Vi (q.aZ p).1/\(∀j,(q.aZ p).1.vw j=q.vw j)/\
  (((q.vw p).2=0/\(q.aZ p).2=(⟨(q.vw p).1.toArray⟩,0)/\∃(k:Nat) (f:Fr),(q.aZ p).1.l[k]?=some f/\f.an=p/\0<=p/\f.held=1/\∀(i:Nat) (h:Fr),i≠k->(q.aZ p).1.l[i]?=some h->h.held=0)\/
   ((q.vw p).2=3/\(q.aZ p).2=(⟨#[]⟩,3)/\∀f∈(q.aZ p).1.l,f.held=0)\/((q.vw p).2=0/\(q.aZ p).2=(⟨#[]⟩,11)/\∀f∈(q.aZ p).1.l,f.held=0)):=by
 obtain⟨c,z⟩:=H.z
 rcases fX q.l p with e|⟨k,f,e,hk,he,Ci⟩
 .have Km:p<0\/∀f∈q.l,f.an≠p:=by
   by_cases h0:p<0
   .exact .inl h0
   .exact .inr (zV e (by omega))
  have hvw:=eA (q:=q) Km
  by_cases hr:(q.a.aK p).2≠0
  .have hE:q.aZ p=(q,⟨#[]⟩,(q.a.aK p).2):=by
    unfold QS.aZ;rw[e,if_neg (by omega),if_pos hr]
   have h3:(q.a.aK p).2=3:=by
    unfold St.aK at hr ⊢
    split
    .rename_i h;rw[h]at hr;exact absurd rfl hr
    .rfl
   rw[hE];exact⟨rfl,V,λj=>rfl,.inr (.inl ⟨by rw[hvw];exact h3,by rw[h3],N⟩)⟩
  have LL:(q.a.aK p).2=0:=by simpa using hr
  obtain⟨k,v1,v2,v3⟩:=FC q H.lh N;have va:=iH q;obtain⟨V1,w1⟩:=V.pd (q':=q.aH.1) va.1 (pdh_pd v3);have hkv:k<q.aH.1.l.length:=by omega
  rcases LJ V1 hkv with⟨b1,b2,b3,b4,f,b5,b6,b7,b8⟩|hb
  .have hE:q.aZ p=({(q.aH.1.bI k).1 with l:=(q.aH.1.bI k).1.l.set k ⟨p,⟨(q.a.aK p).1.toArray⟩,1,false,true⟩},⟨(q.a.aK p).1.toArray⟩,0):=by
    unfold QS.aZ;rw[e,if_neg (by omega),if_neg hr,v1,if_neg (by omega),show((k:Nat):Int).toNat=k by omega,if_neg (by rw[b1];simp)]
   have Ci:0<=p:=Hy LL;have hpg:∀h∈(q.aH.1.bI k).1.l,h.an≠p:=λh hh=>by
    have:h.an∈q.l.map Fr.an:=by
     have e1:q.aH.1.l.map Fr.an=q.l.map Fr.an:=by
      have hx:∀l:List Fr,l.map Fr.an=(l.map LG).map (λx=>x.1):=λl=>by rw[jR];rfl
      rw[hx,hx,v3]
     rw[<-e1,<-b8];exact qM hh
    obtain⟨f',h1,h2⟩:=dm.1 this;rw[<-h2];exact Km.resolve_left (by omega) f' h1
   have hrd:(q.aH.1.bI k).1.a.aK p=q.a.aK p:=by
    have h1:=(b4 p).trans (w1 p);rw[eA (q:=(q.aH.1.bI k).1) (.inr hpg),hvw]at h1;exact h1
   have hsw:=b3.swap b5 b6 ⟨p,⟨(q.a.aK p).1.toArray⟩,1,false,true⟩ (.inr ⟨Ci,rfl,hpg,by
    show(q.aH.1.bI k).1.a.aK p=((q.a.aK p).1,0);rw[hrd];exact jr rfl LL,by show(q.a.aK p).1.toArray.size=232;simpa using z.len LL⟩)
   rw[hE];refine⟨by show(q.aH.1.bI k).1.a.bQ=_;rw[b2,va.1],hsw.1,λj=>((hsw.2 j).trans (b4 j)).trans (w1 j),.inl ⟨by rw[hvw];exact LL,by rw[hvw],k,⟨p,⟨(q.a.aK p).1.toArray⟩,1,false,true⟩,?_,rfl,Ci,rfl,λi h hi hh=>?_⟩⟩
   .show(List.set _ _ _)[k]?=_;rw[dI (aM.1 b5).1]
   .have hh:(List.set (q.aH.1.bI k).1.l k _)[i]?=some h:=hh;rw[fP (by omega)]at hh;have h3:h.held∈q.aH.1.l.map Fr.held:=by rw[<-b7];exact qM (ay hh)
    obtain⟨f',h4,h5⟩:=dm.1 h3;rw[<-h5];exact Hz v3 N f' h4
  .have hE:q.aZ p=(q.aH.1,⟨#[]⟩,11):=by
    unfold QS.aZ;rw[e,if_neg (by omega),if_neg hr,v1,if_neg (by omega),show((k:Nat):Int).toNat=k by omega,hb,if_pos (by simp)]
   rw[hE];exact⟨by show q.aH.1.a.bQ=_;rw[va.1],V1,w1,.inr (.inr ⟨by rw[hvw];exact LL,rfl,Hz v3 N⟩)⟩
 .have kE:=(aM.1 hk).1;have hE:q.aZ p=({q with l:=q.l.set k {f with held:=f.held+1,used:=true}},f.fO,0):=by
   unfold QS.aZ;rw[e,if_pos (by omega),show((k:Nat):Int).toNat=k by omega,nr hk]
  have hvw:q.vw p=(f.fO.data.toList,0):=by rw[<-he];exact V.jc hk (by omega)
  obtain⟨V1,w1⟩:=V.pd (q':={q with l:=q.l.set k {f with held:=f.held+1,used:=true}}) rfl (j8 q.l Sh.pd k hk rfl);rw[hE];refine⟨rfl,V1,w1,.inl ⟨by rw[hvw],by rw[hvw,ba_eta],k,{f with held:=f.held+1,used:=true},?_,he,Ci,?_,λi h hi hh=>?_⟩⟩
  .show(q.l.set k _)[k]?=_;rw[dI kE]
  .have:=N f (ay hk);show f.held+1=1;omega
  .have hh:(q.l.set k _)[i]?=some h:=hh;rw[fP (by omega)]at hh;exact N h (ay hh)
structure Wp(q:QS)(n K:Nat):Prop where
 H:Hq q n K
 V:Vi q
 N:∀f∈q.l,f.held=0
structure Nx(q q':QS)(n K:Nat):Prop where
 w:Wp q' n K
 o:q'.a.bQ=q.a.bQ
structure Nv(q q':QS)(n K:Nat):Prop extends Nx q q' n K where
 v:∀j,q'.vw j=q.vw j
section
variable{q:QS}{n K:Nat}
theorem Wp.more(h:Wp q n K){K':Nat}(hk:K<=K'):Wp q n K':=⟨h.H.more hk,h.V,h.N⟩
theorem Nv.self(h:Wp q n K):Nv q q n K:=⟨⟨h,rfl⟩,λ_=>rfl⟩
theorem FD(q:QS)(j:Int):(q.vw j).2=0\/q.vw j=([],3):=by
 unfold QS.vw
 split
 .exact .inl rfl
 .unfold St.aK
  split
  .exact .inl rfl
  .exact .inr rfl
theorem Wp.len(h:Wp q n K)(h0:(q.vw j).2=0):(q.vw j).1.length=232:=by
 obtain⟨c,z⟩:=h.H.z
 rcases fY q j with ho|⟨k,f,hk,rfl,hp⟩
 .rw[eA ho]at h0 ⊢;exact z.len h0
 .rw[h.V.jc hk hp];have:=h.V.fl f (ay hk) hp;simpa using this
theorem vw_pos(h0:(q.vw j).2=0):0<=j:=by
 unfold QS.vw at h0
 split at h0
 .rcases fX q.l j with e|⟨_,_,_,_,_,h⟩
  .omega
  .exact h
 .exact Hy h0
theorem Wp.get(h:Wp q n K)(p:Int):Nv q (q.cU p).1 n (K+1)/\
  (((q.vw p).2=0/\(q.cU p).2=(⟨(q.vw p).1.toArray⟩,0))\/(q.vw p=([],3)/\(q.cU p).2=(⟨#[]⟩,3))\/((q.vw p).2=0/\(q.cU p).2=(⟨#[]⟩,11))):=by
 obtain⟨h1,h2,h3,h4⟩:=UH h.H h.V h.N p;have HH:=h.H.get p;unfold QS.cU at HH ⊢
 rcases h4 with⟨e0,e1,k,f,hf,he,Ci,hh,hN⟩|⟨e0,e1,e2⟩|⟨e0,e1,e2⟩
 .rw[e1,if_neg (by simp)]at HH;rw[e1,if_neg (by simp)];obtain⟨l1,l2,l3,l4⟩:=Ia h2 hf he Ci hh hN;exact⟨⟨⟨⟨HH,l2,l4⟩,by rw[l1];exact h1⟩,λj=>(l3 j).trans (h3 j)⟩,.inl ⟨e0,rfl⟩⟩
 .rw[e1,if_pos (by simp)]at HH;rw[e1,if_pos (by simp)];exact⟨⟨⟨⟨HH,h2,e2⟩,h1⟩,h3⟩,.inr (.inl ⟨(FD q p).resolve_left (by omega),rfl⟩)⟩
 .rw[e1,if_pos (by simp)]at HH;rw[e1,if_pos (by simp)];exact⟨⟨⟨⟨HH,h2,e2⟩,h1⟩,h3⟩,.inr (.inr ⟨e0,rfl⟩)⟩
theorem Wp.put(h:Wp q n K)(p:Int)(b:ByteArray)(hb:b.size<=232):Nx q (q.du p b).1 n (K+1)/\
  (((q.vw p).2=0/\(q.du p b).2=0/\∀j,(q.du p b).1.vw j=if j=p then(eO b.data.toList 232,0)else q.vw j)\/(q.vw p=([],3)/\(q.du p b).2=3/\∀j,(q.du p b).1.vw j=q.vw j)\/((q.vw p).2=0/\(q.du p b).2=11/\∀j,(q.du p b).1.vw j=q.vw j)):=by
 obtain⟨h1,h2,h3,h4⟩:=UH h.H h.V h.N p;have HH:=h.H.put_ p b;unfold QS.du at HH ⊢;rw[if_neg (by omega)]at HH ⊢
 rcases h4 with⟨e0,e1,k,f,hf,he,Ci,hh,hN⟩|⟨e0,e1,e2⟩|⟨e0,e1,e2⟩
 .rw[e1,if_neg (by simp)]at HH ⊢;have kE:=(aM.1 hf).1;have e:findF (q.aZ p).1.l p=k:=by
   have e:=Fz hf (by omega) (λj h hj ej=>h2.un j k h f hj hf ej (by omega));rw[he]at e;exact e
  have hE:((q.aZ p).1.fE p b).1={(q.aZ p).1 with l:=(q.aZ p).1.l.set k {f with fO:=rX b,bX:=true,used:=true}}:=by
   unfold QS.fE QS.gX;rw[if_neg (by omega),e,if_neg (by omega),show((k:Nat):Int).toNat=k by omega,hf];dsimp only;rw[if_neg (by omega)]
  have E9:=h2.setp hf (by omega) {f with fO:=rX b,bX:=true,used:=true} rfl rfl (zT (by omega));have hlet:=Ia (q:=((q.aZ p).1.fE p b).1) (by rw[hE];exact E9.1) (p:=p) (k:=k) (f:={f with fO:=rX b,bX:=true,used:=true}) (by rw[hE];show(List.set _ _ _)[k]?=_;rw[dI kE]) he Ci hh (λi h hi hx=>by
   rw[hE]at hx;have hx:(List.set (q.aZ p).1.l k _)[i]?=some h:=hx;rw[fP (by omega)]at hx;exact hN i h hi hx)
  obtain⟨l1,l2,l3,l4⟩:=hlet;refine⟨⟨⟨HH,l2,l4⟩,by rw[l1,hE];exact h1⟩,.inl ⟨e0,rfl,λj=>?_⟩⟩;rw[l3 j,hE,E9.2 j,he]
  by_cases hj:j=p
  .rw[if_pos hj,if_pos hj];rfl
  .rw[if_neg hj,if_neg hj];exact h3 j
 .rw[e1,if_pos (by simp)]at HH ⊢;exact⟨⟨⟨HH,h2,e2⟩,h1⟩,.inr (.inl ⟨(FD q p).resolve_left (by omega),rfl,h3⟩)⟩
 .rw[e1,if_pos (by simp)]at HH ⊢;exact⟨⟨⟨HH,h2,e2⟩,h1⟩,.inr (.inr ⟨e0,rfl,h3⟩)⟩
theorem Wp.xw(h:Wp q n K)(i:Int):Nv q (q.eE i).1 n (K+1)/\((q.eE i).2=0\/(q.eE i).2=3\/(q.eE i).2=11):=by
 have HH:=h.H.xw i;unfold QS.eE at HH ⊢
 split
 .exact⟨.self (h.more (by omega)),.inr (.inl rfl)⟩
 .split
  .exact⟨.self (h.more (by omega)),.inl rfl⟩
  .split
   .rename_i hi _ h3;have:=h.N _ (ay (jt (l:=q.l) (k:=i.toNat) (by omega)));omega
   .rename_i hi hp h3;rw[if_neg hi,if_neg hp,if_neg h3]at HH
    rcases LJ h.V (k:=i.toNat) (by omega)with⟨b1,b2,b3,b4,f,b5,b6,b7,b8⟩|hb
    .rw[if_neg (by rw[b1];simp)]at HH ⊢;have hsw:=b3.swap b5 b6 Fr.nil (.inl rfl);refine⟨⟨⟨⟨HH,hsw.1,λg hg=>?_⟩,b2⟩,λj=>(hsw.2 j).trans (b4 j)⟩,.inl rfl⟩
     rcases mem_set hg with rfl|⟨i',hi1,N4⟩
     .rfl
     .have h3:g.held∈q.l.map Fr.held:=by rw[<-b7];exact qM (ay N4)
      obtain⟨f',h4,h5⟩:=dm.1 h3;rw[<-h5];exact h.N f' h4
    .rw[hb,if_pos (by simp)];exact⟨.self (h.more (by omega)),.inr (.inr rfl)⟩
theorem Wp.xx(h:Wp q n K):∀i,i<=q.l.length->Nv q (q.aT i).1 n (K+i)/\((q.aT i).2=0\/(q.aT i).2=11)/\(q.aT i).1.l.length=q.l.length
 |0,_=>⟨.self h,.inl rfl,rfl⟩
 |i+1,hi=>by
  obtain⟨h1,h2,h3⟩:=h.xx i (by omega);have HH:=(h.H.xx (i+1) hi).1;rw[q8]at HH ⊢
  rcases h2 with h2|h2
  .rw[if_neg (by rw[h2];simp)]at HH ⊢
   rcases LJ h1.w.V (k:=i) (by omega)with⟨b1,b2,b3,b4,f,b5,b6,b7,b8⟩|hb
   .refine⟨⟨⟨⟨HH,b3,λg hg=>?_⟩,by rw[b2];exact h1.o⟩,λj=>(b4 j).trans (h1.v j)⟩,.inl b1,?_⟩
    .have h6:g.held∈(q.aT i).1.l.map Fr.held:=by rw[<-b7];exact qM hg
     obtain⟨f',h7,h8⟩:=dm.1 h6;rw[<-h8];exact h1.w.N f' h7
    .have:=congrArg List.length b8;simp only[eM]at this;omega
   .rw[hb]at HH ⊢;exact⟨⟨⟨⟨HH,h1.w.V,h1.w.N⟩,h1.o⟩,h1.v⟩,.inr rfl,h3⟩
  .rw[if_pos (by rw[h2];simp)]at HH ⊢;exact⟨⟨⟨⟨HH,h1.w.V,h1.w.N⟩,h1.o⟩,h1.v⟩,.inr h2,h3⟩
theorem Wp.FE(h:Wp q n K):∀i,i<=q.l.length->(q.aT i).2=0->∀(j:Nat) (f:Fr),(q.aT i).1.l[j]?=some f->f.bX=true->i<=j
 |0,_,_,_,_,_,_=>bf _
 |i+1,hi,h0,j,f,hf,hd=>by
  rw[q8]at h0 hf
  by_cases h2:(q.aT i).2=0
  .rw[if_neg (by rw[h2];simp)]at h0 hf;obtain⟨a1,a2⟩:=back_d (by rw[(h.xx i (by omega)).2.2];omega) h0 hf hd;have:=h.FE i (by omega) h2 j f a2 hd;omega
  .rw[if_pos h2]at h0;exact absurd h0 h2
def QS.ov(q:QS)(j:Int):List UInt8×Int:=({q.a with now:=gl q.a.bQ}:St).aK j
theorem Ib{q q':QS}(h:q'.a.bQ=q.a.bQ)(j:Int):q'.ov j=q.ov j:=by
 unfold QS.ov St.aK St.at;rw[h]
theorem Wp.j0(h:Wp q n K)(hK:K<=999999999000):Wp q.aE.1 n (K+40)/\(∀j,q.aE.1.vw j=q.vw j)/\
  ((q.aE.2=0/\∀j,q.aE.1.ov j=q.vw j)\/(q.aE.2=11/\∀j,q.aE.1.ov j=q.ov j)):=by
 obtain⟨h1,h2,h3⟩:=h.xx q.l.length (Nat.le_refl _);have l2:=h.H.l2;have HH:=h.H.j0 hK;unfold QS.aE at HH ⊢;rw[if_neg (by rw[sP h.N];omega)]at HH ⊢
 rcases h2 with h2|h2
 .rw[if_neg (by rw[h2];simp)]at HH ⊢;obtain⟨c1,c2⟩:=h1.w.V.j0;refine⟨⟨HH,c1,h1.w.N⟩,λj=>(c2 j).trans (h1.v j),?_⟩;have LM:=h.FE _ (Nat.le_refl _) h2;generalize hb:(q.aT q.l.length).1=r at *
  by_cases hf:r.a.free<cB r.a.dH.length
  .right;have e:r.a.aE=(r.a,11):=by unfold St.aE;rw[if_pos hf]
   rw[e];exact⟨rfl,λj=>Ib h1.o j⟩
  .left;have e:r.a.aE=({r.a with now:=gl r.a.dH,bQ:=r.a.dH,ep:=r.a.ep+1},0):=by unfold St.aE;rw[if_neg hf]
   refine⟨by rw[e],λj=>?_⟩;have e2:QS.ov {r with a:=r.a.aE.1} j=r.a.aE.1.aK j:=by
    rw[e];rfl
   show QS.ov {r with a:=r.a.aE.1} j=_;rw[e2,(mX r.a j).1,<-h1.v j]
   rcases fY r j with ho|⟨k,f,hk,rfl,hp⟩
   .rw[eA ho]
   .rw[h1.w.V.jc hk hp];refine h1.w.V.cl f (ay hk) hp ?_
    by_cases hd:f.bX=true
    .have:=LM k f hk hd;have:=(aM.1 hk).1;omega
    .simpa using hd
 .rw[if_pos (by rw[h2];simp)]at HH ⊢;exact⟨(⟨HH,h1.w.V,h1.w.N⟩),h1.v,.inr ⟨h2,λj=>Ib h1.o j⟩⟩
theorem Wp.abort(h:Wp q n K):Wp q.bY n K/\(∀j,q.bY.vw j=q.ov j)/\∀j,q.bY.ov j=q.ov j:=by
 have hn:∀f∈q.bY.l,f=Fr.nil:=λf hf=>ng hf;have hp:∀f∈q.bY.l,¬0<=f.an:=λf hf=>by rw[hn f hf];show ¬(0:Int)<= -1;omega
 refine⟨⟨h.H.abort,⟨λi j f g hi hj e h0=>absurd h0 (hp f (ay hi)),λf hf h0=>absurd h0 (hp f hf),λf hf h0=>absurd h0 (hp f hf),λf hf _=>by rw[hn f hf];rfl,λf hf h0=>absurd h0 (hp f hf)⟩,λf hf=>by rw[hn f hf];rfl⟩,λj=>?_,λj=>rfl⟩
 by_cases hj:j<0
 .rw[eA (.inl hj)];rfl
 .rw[eA (.inr λf hf e=>hp f hf (by omega))];rfl
theorem at_put'(v:Option (Bool×List UInt8))(q:Int):({a with now:=nF a.now a.slot v}:St).at q=if q=(a.slot:Nat)then v else a.at q:=by
 unfold St.at
 by_cases h0:0<=q
 .rw[if_pos h0];show((nF a.now a.slot v)[q.toNat]?).getD none=_;rw[nG _ _ _ (slot_le a)]
  by_cases e:q=(a.slot:Nat)
  .rw[if_pos e,if_pos (by omega)];rfl
  .rw[if_neg e,if_neg (by omega),if_pos h0]
 .rw[if_neg h0,if_neg (by omega),if_neg h0]
theorem vw_new{p:List UInt8}(h:(a.bJ p).2.2=0):∃l:Nat,(a.bJ p).2.1=l/\l<=511/\a.at (l:Nat)=none/\∀j,(a.bJ p).1.aK j=if j=(l:Nat)then(eO p 232,0)else a.aK j:=by
 unfold St.bJ at h ⊢
 split at h
 .exact absurd h (by show(4:Int)≠0;decide)
 .rename_i h1;rw[if_neg h1]
  split at h
  .exact absurd h (by show(11:Int)≠0;decide)
  .rename_i h2;rw[if_neg h2];refine⟨a.slot,rfl,by omega,Qe a,λj=>?_⟩;unfold St.aK;rw[at_put']
   by_cases e:j=(a.slot:Nat)
   .rw[if_pos e,if_pos e]
   .rw[if_neg e,if_neg e]
theorem Wp.new(h:Wp q n K)(p:ByteArray)(hb:p.size<=232):Nx q (q.bJ p.data.toList).1 n (K+1)/\
  ((∃l:Nat,(q.bJ p.data.toList).2=(((l:Nat):Int),0)/\l<=511/\q.vw (l:Nat)=([],3)/\∀j,(q.bJ p.data.toList).1.vw j=if j=(l:Nat)then(eO p.data.toList 232,0)else q.vw j)\/((q.bJ p.data.toList).2=(0,11)/\∀j,(q.bJ p.data.toList).1.vw j=q.vw j)):=by
 have HH:=h.H.new p.data.toList;unfold QS.bJ at HH ⊢
 by_cases h0:(q.a.bJ p.data.toList).2.2=0
 .obtain⟨l,e1,e2,e3,e4⟩:=vw_new h0;have hr:∀f∈q.l,0<=f.an->f.an≠(l:Nat):=λf hf h0 e=>by
   have:=h.V.ex f hf h0;unfold St.aK at this;rw[e,e3]at this;exact absurd this (by show(3:Int)≠0;decide)
  have hl:q.vw (l:Nat)=([],3):=by
   rw[eA (.inr λf hf e=>hr f hf (by omega) e)];unfold St.aK;rw[e3]
  have V':Vi {q with a:=(q.a.bJ p.data.toList).1}:=⟨h.V.un,λf hf h0 hd=>by show(q.a.bJ _).1.aK _=_;rw[e4,if_neg (hr f hf h0)];exact h.V.cl f hf h0 hd,λf hf h0=>by show((q.a.bJ _).1.aK _).2=_;rw[e4,if_neg (hr f hf h0)];exact h.V.ex f hf h0,h.V.em,h.V.fl⟩;refine⟨⟨⟨HH,V',h.N⟩,?_⟩,.inl ⟨l,jr e1 h0,e2,hl,λj=>?_⟩⟩
  .show(q.a.bJ _).1.bQ=_;unfold St.bJ
   split
   .rfl
   .split<;>rfl
  .rcases fY q j with ho|⟨k,f,hk,rfl,hp⟩
   .rw[eA (q:={q with a:=(q.a.bJ p.data.toList).1}) ho,eA ho];exact e4 j
   .rw[if_neg (hr f (ay hk) hp),h.V.jc hk hp];exact V'.jc hk hp
 .have e:q.a.bJ p.data.toList=(q.a,0,11):=by
   unfold St.bJ at h0 ⊢;have hl:¬232<p.data.toList.length:=by simp;omega
   rw[if_neg hl]at h0 ⊢
   split
   .rfl
   .rename_i h1;rw[if_neg h1]at h0;exact absurd rfl h0
  rw[e]at HH ⊢;exact⟨⟨⟨HH,h.V,h.N⟩,rfl⟩,.inr ⟨rfl,λ_=>rfl⟩⟩
theorem Qz{l:Int}(h:(a.at l).isSome=true)(j:Int):(a.aR l).1.aK j=if j=l then([],3)else a.aK j:=by
 obtain⟨h0,h1⟩:=ia h;have hat:(a.aR l).1.at j=if j=l then none else a.at j:=by
  unfold St.aR;rw[if_pos h];unfold St.at
  by_cases hj:0<=j
  .rw[if_pos hj,if_pos hj];show((a.now.set l.toNat none)[j.toNat]?).getD none=_
   by_cases e:j=l
   .subst e;rw[if_pos rfl,dI h1];rfl
   .rw[if_neg e,fP (by omega)]
  .rw[if_neg hj,if_neg (by omega),if_neg hj]
 unfold St.aK;rw[hat]
 by_cases e:j=l
 .rw[if_pos e,if_pos e]
 .rw[if_neg e,if_neg e]
theorem Wp.drop(h:Wp q n K)(p:Int):Nx q (q.aR p).1 n K/\
  (((q.vw p).2=0/\(q.aR p).2=0/\∀j,(q.aR p).1.vw j=if j=p then([],3)else q.vw j)\/(q.vw p=([],3)/\(q.aR p).2=3/\∀j,(q.aR p).1.vw j=q.vw j)):=by
 have HH:=h.H.drop p;have hold:(q.a.aR p).1.bQ=q.a.bQ:=by unfold St.aR;split<;>rfl
 unfold QS.aR at HH ⊢;have hnh:¬(0<=findF q.l p/\0<(im q.l (findF q.l p).toNat).held):=λ⟨h1,h2⟩=>by
  rcases fX q.l p with e|⟨k,f,e,hk,_,_⟩
  .omega
  .rw[e,show((k:Nat):Int).toNat=k by omega,nr hk,h.N f (ay hk)]at h2;omega
 rw[if_neg hnh]at HH ⊢
 by_cases hx:(q.a.at p).isSome=true
 .have e0:(q.a.aR p).2=0:=by unfold St.aR;rw[if_pos hx]
  have hr:=Qz hx;rw[if_neg (by rw[e0];simp)]at HH ⊢
  rcases fX q.l p with e|⟨k,f,e,hk,he,Ci⟩
  .rw[e,if_neg (by omega)]at HH ⊢;have Ci:=(ia hx).1;have Km:=zV e Ci;have hv:q.vw p=q.a.aK p:=eA (.inr Km);have V':Vi {q with a:=(q.a.aR p).1}:=⟨h.V.un,λf hf h0 hd=>by show(q.a.aR p).1.aK _=_;rw[hr,if_neg (Km f hf)];exact h.V.cl f hf h0 hd,λf hf h0=>by show((q.a.aR p).1.aK _).2=_;rw[hr,if_neg (Km f hf)];exact h.V.ex f hf h0,h.V.em,h.V.fl⟩;refine⟨⟨⟨HH,V',h.N⟩,hold⟩,.inl ⟨by rw[hv];exact mW.2 hx,rfl,λj=>?_⟩⟩
   rcases fY q j with ho|⟨i,f,hi,rfl,hp⟩
   .rw[eA (q:={q with a:=(q.a.aR p).1}) ho,eA ho];exact hr j
   .rw[if_neg (Km f (ay hi)),h.V.jc hi hp];exact V'.jc hi hp
  .rw[e,if_pos (by omega),show((k:Nat):Int).toNat=k by omega]at HH ⊢;have kE:=(aM.1 hk).1;have hv:q.vw p=(f.fO.data.toList,0):=by rw[<-he];exact h.V.jc hk (by omega)
   have ne:∀(i:Nat) (g:Fr),i≠k->q.l[i]?=some g->0<=g.an->g.an≠p:=λi g hi hg h0 e=>hi (h.V.un i k g f hg hk (by omega) h0);have bQ:∀g∈q.l.set k Fr.nil,0<=g.an->g∈q.l/\g.an≠p:=λg hg h0=>by
    rcases mem_set hg with rfl|⟨i,hi,oq⟩
    .exact absurd h0 (by show ¬(0:Int)<= -1;omega)
    .exact⟨ay oq,ne i g hi oq h0⟩
   have V':Vi {q with a:=(q.a.aR p).1,l:=q.l.set k Fr.nil}:=by
    refine⟨λi j f1 h1 hi hj ee h0=>?_,λg hg h0 hd=>?_,λg hg h0=>?_,λg hg h0=>?_,λg hg h0=>h.V.fl g (bQ g hg h0).1 h0⟩
    .have gt:∀(i:Nat) (x:Fr),(q.l.set k Fr.nil)[i]?=some x->0<=x.an->q.l[i]?=some x:=λi x hx h0=>by
      by_cases uT:i=k
      .subst uT;rw[dI kE]at hx;injection hx with hx
       subst hx;exact absurd h0 (by show ¬(0:Int)<= -1;omega)
      .rw[fP (by omega)]at hx;exact hx
     exact h.V.un i j f1 h1 (gt i f1 hi h0) (gt j h1 hj (by omega)) ee h0
    .obtain⟨o1,o2⟩:=bQ g hg h0;show(q.a.aR p).1.aK _=_;rw[hr,if_neg o2];exact h.V.cl g o1 h0 hd
    .obtain⟨o1,o2⟩:=bQ g hg h0;show((q.a.aR p).1.aK _).2=_;rw[hr,if_neg o2];exact h.V.ex g o1 h0
    .rcases mem_set hg with rfl|⟨i,hi,oq⟩
     .rfl
     .exact h.V.em g (ay oq) h0
   refine⟨⟨⟨HH,V',λg hg=>?_⟩,hold⟩,.inl ⟨by rw[hv],rfl,λj=>?_⟩⟩
   .rcases mem_set hg with rfl|⟨i,hi,oq⟩
    .rfl
    .exact h.N g (ay oq)
   .by_cases hj:j=p
    .subst hj;rw[if_pos rfl,eA (q:={q with a:=(q.a.aR j).1,l:=q.l.set k Fr.nil}) (.inr λg hg e=>(bQ g hg (by omega)).2 e)];show(q.a.aR j).1.aK j=_;rw[hr,if_pos rfl]
    .rw[if_neg hj]
     rcases fY q j with ho|⟨i,g,hi,rfl,hp⟩
     .have ho':j<0\/∀g∈q.l.set k Fr.nil,g.an≠j:=by
       by_cases hj0:j<0
       .exact .inl hj0
       .refine .inr λg hg=>?_
        rcases mem_set hg with rfl|⟨i,hi,oq⟩
        .show(-1:Int)≠j;omega
        .exact ho.resolve_left hj0 g (ay oq)
      rw[eA ho,eA (q:={q with a:=(q.a.aR p).1,l:=q.l.set k Fr.nil}) ho'];show(q.a.aR p).1.aK j=_;rw[hr,if_neg hj]
     .rw[h.V.jc hi hp];refine V'.jc (k:=i) ?_ hp;show(q.l.set k Fr.nil)[i]?=_;rw[fP]
      .exact hi
      .rintro rfl;rw[hk]at hi;injection hi with hi
       subst hi;exact hj he
 .have hx2:(q.a.aR p)=(q.a,3):=by unfold St.aR;rw[if_neg hx]
  have hr3:(q.a.aK p).2≠0:=λh=>hx (mW.1 h);rw[hx2,if_pos (by simp)]at HH ⊢;refine⟨⟨⟨HH,h.V,h.N⟩,rfl⟩,.inr ⟨?_,rfl,λ_=>rfl⟩⟩;refine(FD q p).resolve_left (λh0=>?_)
  rcases fY q p with ho|⟨i,g,hi,rfl,hp⟩
  .rw[eA ho]at h0;exact hr3 h0
  .exact hr3 (h.V.ex g (ay hi) hp)
end
open Go.RowKit Go.Sort Go.Shelf
variable{w:World}
def Ic:Go.Shelf.Ren:=⟨fun|189=>190|125=>224|257=>223|128=>240|129=>241|294=>231|295=>232|296=>233|297=>234|298=>235|299=>236|216=>237|300=>238|301=>239|328=>246|329=>247|330=>248|331=>249|332=>250|215=>251|343=>254|n=>n,fun|28=>60|3=>3|46=>201|0=>0|51=>259|53=>222|4=>4|183=>288|182=>287|131=>121|5=>5|9=>9|218=>298|222=>128|228=>305|229=>306|n=>n,fun|n=>n⟩
theorem N9:Go.Proofs.Lays.n189 prog Ic:={
 mixed:=by kernel_rfl
 f125:=func224.trans (congrArg some (by kernel_rfl))
 f128:=func240.trans (congrArg some (by kernel_rfl))
 f129:=func241.trans (congrArg some (by kernel_rfl))
 f189:=func190.trans (congrArg some (by kernel_rfl))
 f215:=func251.trans (congrArg some (by kernel_rfl))
 f216:=func237.trans (congrArg some (by kernel_rfl))
 f257:=func223.trans (congrArg some (by kernel_rfl))
 f294:=func231.trans (congrArg some (by kernel_rfl))
 f295:=func232.trans (congrArg some (by kernel_rfl))
 f296:=func233.trans (congrArg some (by kernel_rfl))
 f297:=func234.trans (congrArg some (by kernel_rfl))
 f298:=func235.trans (congrArg some (by kernel_rfl))
 f299:=func236.trans (congrArg some (by kernel_rfl))
 f300:=func238.trans (congrArg some (by kernel_rfl))
 f301:=func239.trans (congrArg some (by kernel_rfl))
 f328:=func246.trans (congrArg some (by kernel_rfl))
 f329:=func247.trans (congrArg some (by kernel_rfl))
 f330:=func248.trans (congrArg some (by kernel_rfl))
 f331:=func249.trans (congrArg some (by kernel_rfl))
 f332:=func250.trans (congrArg some (by kernel_rfl))
 f343:=func254.trans (congrArg some (by kernel_rfl))
 t0:=underlying0
 a0:=Tryz.isAgg0
 z0:=Tryz.sizeOf0
 v0:=Tryz.zeroValue0
 t3:=underlying3
 a3:=Tryz.isAgg3
 z3:=Tryz.sizeOf3
 v3:=Tryz.zeroValue3
 t4:=underlying4
 a4:=Tryz.isAgg4
 z4:=Tryz.sizeOf4
 v4:=Tryz.zeroValue4
 t5:=underlying5
 a5:=Tryz.isAgg5
 z5:=Tryz.sizeOf5
 v5:=Tryz.zeroValue5
 t9:=underlying9
 a9:=Tryz.isAgg9
 z9:=Tryz.sizeOf9
 v9:=Tryz.zeroValue9
 t28:=underlying60
 a28:=Tryz.isAgg60
 z28:=Tryz.sizeOf60
 v28:=Tryz.zeroValue60
 t46:=underlying201
 a46:=Tryz.isAgg201
 z46:=Tryz.sizeOf201
 v46:=Tryz.zeroValue201
 t51:=underlying259
 a51:=Tryz.isAgg259
 z51:=Tryz.sizeOf259
 v51:=Tryz.zeroValue259
 t53:=underlying222
 a53:=Tryz.isAgg222
 z53:=Tryz.sizeOf222
 v53:=Tryz.zeroValue222
 t131:=underlying121
 a131:=Tryz.isAgg121
 z131:=Tryz.sizeOf121
 v131:=Tryz.zeroValue121
 t182:=underlying287
 a182:=Tryz.isAgg287
 z182:=Tryz.sizeOf287
 v182:=Tryz.zeroValue287
 t183:=underlying288
 a183:=Tryz.isAgg288
 z183:=Tryz.sizeOf288
 v183:=Tryz.zeroValue288
 t218:=underlying298
 a218:=Tryz.isAgg298
 z218:=Tryz.sizeOf298
 v218:=Tryz.zeroValue298
 t222:=underlying128
 a222:=Tryz.isAgg128
 z222:=Tryz.sizeOf128
 v222:=Tryz.zeroValue128
 t228:=underlying305
 a228:=Tryz.isAgg305
 z228:=Tryz.sizeOf305
 v228:=Tryz.zeroValue305
 t229:=underlying306
 a229:=Tryz.isAgg306
 z229:=Tryz.sizeOf306
 v229:=Tryz.zeroValue306}
def zX(l:List Int):List Int:=l.mergeSort λx y=>decide (x<=y)
theorem q9(l:List Int):(zX l).length=l.length:=by unfold zX;simp
theorem UI(g cap:Nat)(zs:List Int)(w:World)(hH:Holds (Value.int .i64) w g 0 zs.toArray)(hblk:g<w.heap.size)(oX:zs.length<4611686018427387904):
  Calls prog 190 #[.slice (some ⟨g,0,none⟩) zs.length cap] w λe w'=>e=.returned (.tuple #[])/\∃n os,w'=grow (putRow (Value.int .i64) (Sort.ahead w n) g 0 (zX zs).toArray) os:=
 Any.slices_Sort_int N9 g 0 cap zs w hH hblk oX
theorem QA(p:Option Addr)(cap:Nat)(w:World):
  Calls prog 190 #[.slice p 0 cap] w λe w'=>e=.returned (.tuple #[])/\w'=w:=
 Any.slices_Sort_int_none N9 p cap w
theorem Ie{g n:Nat}{os:Array Obj}(d:Array Int):ag [g] w (grow (putRow (Value.int .i64) (Sort.ahead w n) g 0 d) os):=by
 refine⟨rfl,rfl,rfl,by simp,λk hk fc=>?_⟩;rw[heap_grow_old _ _ (by simpa using hk)];have:g≠k:=λe=>fc (by simp[e]);simp[putRow,mapBlock,Sort.ahead,Array.getElem?_modify,this]
theorem FF(ts:List Int)(cur rest:List Value)(h:ts.length=cur.length):putCells (Value.int .i64) 0 ts.toArray (cur++rest).toArray=(ts.map (Value.int .i64)++rest).toArray:=by
 apply Array.ext_getElem?;intro j;unfold putCells;rw[Array.getElem?_mapIdx,dh,dh]
 by_cases hc:j<ts.length
 .rw[bE (by omega),bE (by simpa using hc),ic,aG hc,aG (show j<cur.length by omega)];simp[hc]
 .rw[dR (by omega),dR (by simp;omega),eM,h]
  cases rest[j-cur.length]? with
  |none=>rfl
  |some x=>
   simp only[k6];rw[if_neg (by simp;omega)]
theorem UJ{v:Value}{l:List Int}(S:aS w 3 1 v l.length (cZ l))(hl:l.length<=1000000):
  Calls prog 190 #[v] w λe w'=>e=.returned (.tuple #[])/\aS w' 3 1 v l.length (cZ (zX l))/\ag (ah v) w w':=by
 rcases S.2 with⟨rfl,h0⟩|⟨g,cap,rest,rfl,B,hc,hm⟩
 .rw[h0];have GQ:l=[]:=Ek.1 h0;subst GQ;refine(QA none 0 w).mono ?_;rintro e w' ⟨rfl,rfl⟩;exact⟨rfl,by simpa [zX,cZ]using aS.nil w' 3 1,ag.refl _ _⟩
 .obtain⟨lo,hi,hb,hf⟩:=B;have hB:aF w g 3 (cZ l++rest).toArray:=⟨lo,hi,hb,hf⟩;have hn:(cZ l).length=l.length:=by unfold cZ;simp
  have hH:Holds (Value.int .i64) w g 0 l.toArray:=by
   intro j hj;have hj':j<l.length:=by simpa using hj
   refine⟨?_,?_⟩
   .rw[bl];refine hB.ab ?_;rw[dh,bE (by rw[hn];exact hj')];simp[cZ,hj']
   .rw[bl];exact hB.frozen j (by simp[hn];omega)
  refine(UI g cap l w hH (Array.getElem?_eq_some_iff.1 hb).1 (by omega)).mono ?_;rintro e w' ⟨rfl,n,os,rfl⟩;refine⟨rfl,⟨by unfold cZ;simp[q9],.inr ⟨g,cap,rest,rfl,⟨lo,hi,?_,?_⟩,by unfold cZ at hc ⊢;simpa [q9]using hc,hm⟩⟩,?_⟩
  .rw[heap_sortedI _ hb,FF _ _ _ (by rw[hn,q9])];rfl
  .simpa [cZ,q9]using hf
  .simpa [ah]using Ie (w:=w) (g:=g) (n:=n) (os:=os) (zX l).toArray
end Sh
end Go.Proofs.YtmonobkginiajaaGreat
