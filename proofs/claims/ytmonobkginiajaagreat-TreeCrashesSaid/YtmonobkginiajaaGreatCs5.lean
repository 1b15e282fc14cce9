/- packed. -/
import Derived.Test.YtmonobkginiajaaGreatCs4
set_option linter.all false
set_option maxRecDepth 100000
set_option maxHeartbeats 8000000
namespace Go.Proofs.YtmonobkginiajaaGreat
open Go.Proofs.Tryz
open Value renaming slice→U3,int→U5,pointer→st
open Ending renaming returned→fd
open IntKind renaming i64→U6
open Obj renaming cells→Pi
open Go renaming World→BY,Value→By
open List renaming replicate→it
namespace Sh
open Go.RowKit Pk Dk Pg
variable{w:BY}{x:X}{n m cc:Nat}{A:Option Addr}
def C.gh(c:C)(n:Nat)(parts:List Int):Nat->D×Int
 |0=>(c.d,0)
 |i+1=>if(c.gh n parts i).2≠0 then c.gh n parts i else bq (c.gh n parts i).1 n (parts.getD i 0) (c.ep+1) 1 (Rt.iN (Rt.iF c.table i))
def C.bM(c:C)(n:Nat)(parts:List Nat):D×Int:=
 if(c.gh n (Rt.cy parts) parts.length).2≠0 then c.gh n (Rt.cy parts) parts.length
 else if(c.gh n (Rt.cy parts) parts.length).1.cX.2≠0 then(c.gh n (Rt.cy parts) parts.length).1.cX
 else if((c.gh n (Rt.cy parts) parts.length).1.cX.1.ao n (1-c.slot) (Rt.eV (c.ep+1) c.table.length parts)).2≠0 then(c.gh n (Rt.cy parts) parts.length).1.cX.1.ao n (1-c.slot) (Rt.eV (c.ep+1) c.table.length parts)
 else((c.gh n (Rt.cy parts) parts.length).1.cX.1.ao n (1-c.slot) (Rt.eV (c.ep+1) c.table.length parts)).1.cX
def Jv(c:C)(n:Nat)(parts:List Int)(h:c.d.aq<=9223372036854775807):∀i,(c.gh n parts i).1.calls<=c.d.calls+4*i/\(c.gh n parts i).1.aq<=9223372036854775807
 |0=>⟨by show c.d.calls<=_;omega,h⟩
 |i+1=>by
  have ih:=Jv c n parts h i;unfold C.gh
  split
  .exact⟨ls,ih.2⟩
  .have:=nC (c.gh n parts i).1 n (parts.getD i 0) (c.ep+1) 1 (Rt.iN (Rt.iF c.table i)) ih.2;exact⟨ls,this.2⟩
def nF(c:C)(n:Nat)(parts:List Int)(i:Nat):c.gh n parts (i+1)=if(c.gh n parts i).2≠0 then c.gh n parts i else bq (c.gh n parts i).1 n (parts.getD i 0) (c.ep+1) 1 (Rt.iN (Rt.iF c.table i)):=rfl
def G3(c:C)(n:Nat)(parts:List Int)(i:Nat)(h:(c.gh n parts i).2≠0):∀k,c.gh n parts (i+k)=c.gh n parts i
 |0=>rfl
 |k+1=>by
  have ih:=G3 c n parts i h k;rw[show i+(k+1)=(i+k)+1 by omega,nF,ih,U8 h]
structure pL(w0 w:BY)(x:X)(n:Nat)(c:C)(d:D)(v:By)(parts:List Int):Prop where
 at_:At w x n {c with d:=d}
 on:ah x.L.fp w0 w
 bx:aM w w0.heap.size 61 #[sp x.b]
 bo:aM w (w0.heap.size+1) 31 #[U5 U6 0]
 ps:Sl w 3 v parts.length (di parts)
 nf:∀g∈cB v,g∉x.L.fp
 lt2:∀g∈x.fp,g<w0.heap.size
section
variable{w0 w w':BY}{x:X}{n:Nat}{c:C}{d:D}{v:By}{parts:List Int}
def pL.lt(h:pL w0 w x n c d v parts):∀g∈x.L.fp,g<w0.heap.size:=λg hg=>h.lt2 g (Lo x g hg)
def pL.below(h:pL w0 w x n c d v parts)(hb:i7 w w'):pL w0 w' x n c d v parts:=
 ⟨h.at_.below hb,h.on.trans (.aj hb),h.bx.below hb h.bx.lt,h.bo.below hb h.bo.lt,h.ps.below hb,h.nf,h.lt2⟩
def pL.step{d':D}(h:pL w0 w x n c d v parts)(A:At w' x n {c with d:=d'})(o:ah x.L.fp w w'):pL w0 w' x n c d' v parts:=
 ⟨A,h.on.trans o,h.bx.only o (λhg=>by have:=h.lt _ hg;omega),h.bo.only o (λhg=>by have:=h.lt _ hg;omega),h.ps.only o (λg hg=>h.nf g hg),h.nf,h.lt2⟩
def pL.o(h:pL w0 w x n c d v parts)(u:By):At (w.setCell ⟨w0.heap.size+1,0,none⟩ u) x n {c with d:=d}/\ah x.L.fp w0 (w.setCell ⟨w0.heap.size+1,0,none⟩ u)/\(w.setCell ⟨w0.heap.size+1,0,none⟩ u).cell? ⟨w0.heap.size+1,0,none⟩=some u:=
 ⟨h.at_.only ((ah.refl [w0.heap.size+1] w).setCell (p:=⟨w0.heap.size+1,0,none⟩) lw u) (λg hg hm=>by have:=h.lt2 g hg;simp at hm;omega),h.on.setCell (λdP=>by dsimp only at dP;omega) u,(h.bo.ct 0 u).ae rfl⟩
def pL.part(h:pL w0 w x n c d v parts)(i:Nat)(hi:i<parts.length):∃g cp,v=U3 (lc g) parts.length cp/\w.cell? ⟨g,i,none⟩=some (U5 U6 (parts.getD i 0)):=by
 obtain⟨g,cp,rest,hv,B,_,_⟩:=h.ps.form ls;refine⟨g,cp,hv,B.ae ?_⟩;rw[dr,bX (by simpa using hi),pJ _ _ hi]
end
def ss(d:D)(h:d.aq<=9223372036854775807):d.cX.1.calls<=d.calls+1/\d.cX.1.aq<=9223372036854775807:=by
 have:=yB d h;unfold D.cX
 split
 .exact⟨by show d.calls<=_;omega,h⟩
 .split
  .exact⟨by show d.cG.1.calls<=_;omega,this.2⟩
  .exact⟨ls,this.2⟩
def rput_of{w0:BY}{c:C}{d:D}{parts:List Nat}(h:pL w0 w x n c d (U3 A m cc) (Rt.cy parts))(tQ:(Rt.cy parts).length=m)(hmc:m<=cc)(hr:Rt.gP (c.ep+1) (c.table.length:Nat) (Rt.cy parts)):
  Calls prog 102 #[Rt.kk (c.ep+1) (c.table.length:Nat) A m cc] w λe w'=>e=fd (.tuple #[.string ⟨(Rt.eV (c.ep+1) c.table.length parts).toArray⟩,U5 U6 0])/\i7 w w':=by
 refine Rt.Dl (c.ep+1) c.table.length A m cc parts ⟨tQ,λk y hy=>?_⟩ hmc hr;have hk:k<(Rt.cy parts).length:=(aW.1 hy).1;obtain⟨g,cp,hv,ck⟩:=h.part k hk;rw[tQ]at hv;injection hv with e1 e2 e3
 refine⟨_,e1,?_⟩;rw[show(⟨g,0,none⟩:Addr).add k=⟨g,k,none⟩from by unfold Addr.add;split<;>simp_all,ck]
 congr 2
 simp[List.getD,hy]
def su{P:Program}{fn:Func}{t t':Array By}{R:Ending->BY->Prop}(h:∀w,(results fn t').run P w=(results fn t).run P w):∀(ds:List Deferred) (u:FrameMode) (w:BY),Leaves P fn t' R ds u w->Leaves P fn t R ds u w
 |[],.returning,w,⟨v,h1,h2⟩=>⟨v,by rw[<-h w];exact h1,h2⟩
 |[],.panicking _,_,h2=>h2
 |[],.run,_,h2=>h2
 |d::ds,u,w,⟨h1,fv,cap,f,args,h2,h3,h4⟩=>⟨h1,fv,cap,f,args,h2,h3,h4.mono λe u' w' hh=>by
   cases e with
   |returned v=>exact su h ds (settle u') w' hh
   |panicked c=>exact su h ds (raised u' c) w' hh
   |outgrown=>exact hh⟩
def dE(d:Nat)(hd:d≠4){R:Ending->BY->Prop}{c:List PanicEntry}{a:Act}{v:By}(h:bodyPostD prog Tryz.f152 R (.panic c) (a.put (some d) v) w):bodyPostD prog Tryz.f152 R (.panic c) a w:=by
 refine su (λw=>?_) _ _ _ h;rw[eE rfl,eE rfl];simp only[Act.put];have:(a.tmps.setIfInBounds d v).getD 4 undef=a.tmps.getD 4 undef:=by
  rw[Xq,Xq,Array.getElem?_setIfInBounds_ne hd]
 rw[this]
def BC{c:C}(h:At w x n c)(parts:List Nat)(S:Sl w 3 (U3 A m cc) m (di (Rt.cy parts)))(hmc:m<=cc)(nf:∀g∈cB (U3 A m cc),g∉x.fp)
 (hr:Rt.gP (c.ep+1) (c.table.length:Nat) (Rt.cy parts))(hb:∀y∈c.table,y<=1023)(Ca:c.slot=0\/c.slot=1)(hc:c.d.calls<=3999999999999999900)(ha:c.d.aq<=9223372036854775807):
  Calls prog 152 #[sp x.b,U3 A m cc] w λe w'=>e=fd (U5 U6 (c.bM n parts).2)/\At w' x n {c with d:=(c.bM n parts).1}/\ah x.L.fp w w':=by
 have hmf:∀(fn:Fn) (first cap:Array By) (w:BY),(Instr.makeFunc fn first cap).run prog w=.ok (.func fn first cap) w:=λ_ _ _ _=>rfl;have tQ:(Rt.cy parts).length=m:=by have:=S.1;simpa using this
 have hpl2:parts.length=m:=by rw[<-tQ];simp[Rt.cy]
 have hm5:m<=5:=by have:=Rt.jU hr;omega
 have tl:=h.tl;have vz:1<=c.ep+1/\c.ep+1<=1099511627776:=⟨hr.1,hr.2.1⟩;have hneed:(m:Int)=Rt.oT (c.table.length:Nat):=by have:=hr.2.2.2.2.1;rw[tQ]at this;exact this
 obtain⟨R,hR⟩:∃R,c.bM n parts=R:=⟨_,rfl⟩;rw[hR];unfold C.bM at hR;rw[hpl2]at hR;have HR:=xh hR;have U0:=i6 w (Pi #[sp x.b] 61);have U1:=aE U0 (ag (Below.refl (w.alloc (Pi #[sp x.b] 61)).heap.size _) (Pi #[U5 U6 0] 31));have L0:=xh (show pL w ((w.alloc (Pi #[sp x.b] 61)).alloc (Pi #[U5 U6 0] 31)) x n c c.d (U3 A m cc) (Rt.cy parts)from
  ⟨h.below U1,.aj U1,(aM.new w _ _).alloc _,by have:=aM.new (w.alloc (Pi #[sp x.b] 61)) 31 #[U5 U6 0];rw[World.size_alloc]at this;exact this,by rw[tQ];exact S.below U1,λg hg hF=>nf g hg (Lo x g hF),λg hg=>h.lt g hg⟩)
 have hlb:=xh (λi=>Jv c n (Rt.cy parts) ha i);clear hR U0 U1 S nf h;unfold sp at *
 go_enter_defers func152,ntmps152
 go_wp2_with fail
 go_loopw [14] (λiv wr=> ∃i:Nat,i<=m/\iv=U5 U6 i/\Hid ((c.gh n (Rt.cy parts) i).2=0)/\Hid (pL w wr x n c (c.gh n (Rt.cy parts) i).1 (U3 A m cc) (Rt.cy parts))) (λiv _=>m-(intOf iv).toNat)
 case atStart=>exact⟨0,bG _,rfl,xh rfl,L0⟩
 case round=>
  obtain⟨i,hi,rfl,HZ,HL⟩:=hrel;have bb:=hlb.o i
  by_cases h':i<m
  .obtain⟨g,cp,hv,ck⟩:=HL.o.part i (by omega);rw[tQ]at hv;injection hv with e1 e2 e3
   subst e1 e3;clear e2;have Xc:(i:Int)<(m:Int):=by omega
   have Ju:116*i<c.table.length:=by unfold Rt.oT at hneed;omega
   have hsc:=nF c n (Rt.cy parts) i;rw[U9 (by rw[HZ.o];simp)]at hsc;have hid:(Rt.cy parts).getD i 0<=9223372036854775807:=by
    have hm:i<(Rt.cy parts).length:=by omega
    have:=(hr.2.2.2.2.2 i _ (aQ hm)).2.1;simp only[List.getD,aQ hm,j0];omega
   have K2:=xh (λ(W:BY) (hW:pL w W x n c (c.gh n (Rt.cy parts) i).1 (U3 (some ⟨g,0,none⟩) m cc) (Rt.cy parts))=>Yz hW.at_ (hW.bx.bi 0) i Ju hb);have KP:=xh (λ(W:BY) (hW:At W x n {c with d:=(c.gh n (Rt.cy parts) i).1})=>j6 hW ((Rt.cy parts).getD i 0) 1 ⟨(Rt.iN (Rt.iF c.table i)).toArray⟩ hid (by show 0<=c.ep/\c.ep<=1099511627776;omega) (by show(c.gh n (Rt.cy parts) i).1.calls<=3999999999999999990;omega) bb.2)
   rw[show({c with d:=(c.gh n (Rt.cy parts) i).1}:C).table=c.table from rfl]at K2;rw[show({c with d:=(c.gh n (Rt.cy parts) i).1}:C).d=(c.gh n (Rt.cy parts) i).1 from rfl,show({c with d:=(c.gh n (Rt.cy parts) i).1}:C).ep=c.ep from rfl,show(⟨(Rt.iN (Rt.iF c.table i)).toArray⟩:Nm).data.toList=Rt.iN (Rt.iF c.table i)from rfl,<-hsc]at KP;generalize (⟨(Rt.iN (Rt.iF c.table i)).toArray⟩:Nm)=PB at *
   obtain⟨er,nh⟩:∃er,(c.gh n (Rt.cy parts) (i+1)).2=er:=⟨_,rfl⟩;rw[nh]at KP;have HS:=xh nh;clear hsc nh bb;unfold sp at *;have hdc:(0:Int)<=(i:Int):=by omega
   generalize (Rt.cy parts).getD i 0=pid at *;go_wp2_with fail;have LD:=xh<|HL.o.below ((Below.refl _ _).drew);have bD:=LD.o.bx.bi 0;refine kw (λW'=>W'.cell? ⟨w.heap.size,0,none⟩=some (st (some ⟨x.b,0,none⟩))) (bD) (λaC=>?_);refine kN 0 19 (λ_ _ _ h=>dE 19 (by decide) h) ?_;refine kN 1 20 (λ_ _ _ h=>dE 20 (by decide) h) ?_;refine kN 2 21 (λ_ _ _ h=>dE 21 (by decide) h) ?_
   refine kN 3 22 (λ_ _ _ h=>dE 22 (by decide) h) ?_;refine dV 4 23 λK hK=>?_;go_simp
   go_at_call 197
   refine(K2.o _ LD.o).mono ?_;rintro e w2 ⟨rfl,da⟩;have L2:=xh<|LD.o.below da;have b2:=L2.o.bx.bi 0;clear da;go_simp;refine cq hK (b2) (λaC=>?_);refine dV 5 24 λK hK=>?_;go_simp
   go_at_call 193
   refine(KP.o _ L2.o.at_).mono ?_;rintro e w3 ⟨rfl,A3,o3⟩;have L3:=xh<|L2.o.step A3 o3;have b3:=L3.o.bx.bi 0;clear A3 o3;go_simp;refine cq hK (b3) (λaC=>?_);refine dV 6 25 λK hK=>?_;go_simp
   go_at_call 199
   by_cases he:er=0
   rotate_left
   .refine(xg er he _).mono ?_;rintro e w4 ⟨rfl,rfl⟩;dsimp only;have LZ:=L3;refine leaves_cons (f:=196) (args:= #[st (some ⟨w.heap.size+1,0,none⟩)]) (by simp) (by simp[go_sem]) ?_;refine(kJ ⟨w.heap.size+1,0,none⟩ 0 er [] _ (LZ.o.bo.bi 0) (LZ.o.bo.frozen 0 (by simp))).mono ?_;rintro e u' Ur ⟨rfl,rfl,rfl⟩;obtain⟨y1,y2,y3⟩:=LZ.o.o (U5 U6 er);refine⟨U5 U6 er,?_,?_⟩
    .rw[eE rfl];clear y1 y2;go_simp
    .have yN:=HR.o;rw[show m=(i+1)+(m-(i+1)) by omega,G3 c n _ (i+1) (by rw[HS.o];exact he),U8 (by rw[HS.o];exact he)]at yN;subst yN;exact⟨by rw[HS.o],y1,y2⟩
   subst he;refine(Cf _).mono ?_;rintro e w4 ⟨rfl,rfl⟩;go_simp;refine cq hK (b3) (λaC=>?_);refine jp ?_ _;go_wp2_with fail;go_roundw
   case rel=>exact⟨i+1,by omega,by go_num,HS,L3⟩
   case measure=>simp[intOf];omega
  .obtain rfl:i=m:=by omega
   have yN:=HR.o;rw[U9 (by rw[HZ.o];simp)]at yN;obtain⟨TA,tc,Ae,_⟩:=HL.o.at_.ht.val;have Ae:x.tv=U3 TA c.table.length tc:=Ae;obtain⟨d1,rE⟩:∃d1,(c.gh n (Rt.cy parts) i).1=d1:=⟨_,rfl⟩;rw[rE]at HL yN bb;have KS1:=xh (λ(W:BY) (hW:pL w W x n c d1 (U3 A i cc) (Rt.cy parts))=>Db hW.at_.hd (by show d1.calls<=_;omega) bb.2);have KI:=xh (λ(W:BY) (d:D) (hW:pL w W x n c d (U3 A i cc) (Rt.cy parts))=>rput_of hW tQ hmc hr)
   have e1:U6.wrap (c.ep+1)=c.ep+1:=d9;have e2:U6.wrap (1-c.slot)=1-c.slot:=d9;have b2:=ss d1 bb.2;rw[show({c with d:=d1}:C).d=d1 from rfl]at KS1;have Ov:d1.calls<=3999999999999999930:=by omega
   clear rE hlb bb HZ;generalize d1.cX=s1 at *;obtain⟨sd,se⟩:=s1;dsimp only at KS1 yN b2;have f0:=HL.o.bx.bi 0;have g0:=HL.o.at_.f0;unfold sp dp at *;go_wp2_with fail;refine(KS1.o _ HL.o).mono ?_;rintro e v1 ⟨rfl,D1,o1⟩;have L1:=xh<|HL.o.step (HL.o.at_.Gj D1 o1) o1;clear D1 o1 f0 g0;go_wp2_with fail
   by_cases hse:se=0
   rotate_left
   .skip
    refine(xg se hse _).mono ?_;rintro e vm ⟨rfl,rfl⟩;dsimp only;have LZ:=L1;rw[U8 (by exact hse)]at yN;refine leaves_cons (f:=196) (args:= #[st (some ⟨w.heap.size+1,0,none⟩)]) (by simp) (by simp[go_sem]) ?_;refine(kJ ⟨w.heap.size+1,0,none⟩ 0 se [] _ (LZ.o.bo.bi 0) (LZ.o.bo.frozen 0 (by simp))).mono ?_;rintro e u' Ur ⟨rfl,rfl,rfl⟩;obtain⟨y1,y2,y3⟩:=LZ.o.o (U5 U6 se);refine⟨U5 U6 se,?_,?_⟩
    .rw[eE rfl];clear y1 y2;go_simp
    .subst yN;exact⟨rfl,y1,y2⟩
   subst hse;rw[i8]at yN;have KW:=xh (λ(W:BY) (hW:pL w W x n c sd (U3 A i cc) (Rt.cy parts))=>tV hW.at_.hd (1-c.slot) ⟨(Rt.eV (c.ep+1) c.table.length parts).toArray⟩ (by show sd.calls<=_;omega) b2.2);rw[show({c with d:=sd}:C).d=sd from rfl,show(⟨(Rt.eV (c.ep+1) c.table.length parts).toArray⟩:Nm).data.toList=Rt.eV (c.ep+1) c.table.length parts from rfl]at KW
   have b3:=jD sd n (1-c.slot) (Rt.eV (c.ep+1) c.table.length parts) b2.2;generalize sd.ao n (1-c.slot) (Rt.eV (c.ep+1) c.table.length parts)=s2 at *;generalize (⟨(Rt.eV (c.ep+1) c.table.length parts).toArray⟩:Nm)=RB at *;obtain⟨wd,we⟩:=s2;dsimp only at KW yN b3;refine(Cf _).mono ?_;rintro e vm ⟨rfl,rfl⟩;have LV:=xh<|L1.o.below ((Below.refl _ _).drew);have q0:=LV.o.bx.bi 0;have q5:=LV.o.at_.f5;have q2:=LV.o.at_.f2;rw[Ae]at q2
   go_wp2_with fail;refine kw (λW'=>W'.cell? ⟨w.heap.size,0,none⟩=some (st (some ⟨x.b,0,none⟩))/\W'.cell? ⟨x.b,5,none⟩=some (U5 U6 c.ep)/\W'.cell? ⟨x.b,2,none⟩=some (U3 TA c.table.length tc)) (⟨q0,q5,q2⟩) (λaC=>?_);refine kN 0 34 (λ_ _ _ h=>dE 34 (by decide) h) ?_;refine kN 1 35 (λ_ _ _ h=>dE 35 (by decide) h) ?_;refine kN 2 36 (λ_ _ _ h=>dE 36 (by decide) h) ?_
   refine kN 3 37 (λ_ _ _ h=>dE 37 (by decide) h) ?_;refine kN 4 38 (λ_ _ _ h=>dE 38 (by decide) h) ?_;refine kN 5 39 (λ_ _ _ h=>dE 39 (by decide) h) ?_;refine kN 6 40 (λ_ _ _ h=>dE 40 (by decide) h) ?_;refine kN 7 41 (λ_ _ _ h=>dE 41 (by decide) h) ?_;refine kN 8 42 (λ_ _ _ h=>dE 42 (by decide) h) ?_;refine kN 9 43 (λ_ _ _ h=>dE 43 (by decide) h) ?_;refine kN 10 44 (λ_ _ _ h=>dE 44 (by decide) h) ?_
   refine kN 11 45 (λ_ _ _ h=>dE 45 (by decide) h) ?_;refine dV 12 46 λK hK=>?_;go_simp
   go_at_call 102
   refine(KI.o _ _ LV.o).mono ?_;rintro e v2 ⟨rfl,da⟩;have L2:=xh<|LV.o.below da;have q0:=L2.o.bx.bi 0;have q5:=L2.o.at_.f5;have q2:=L2.o.at_.f2;rw[Ae]at q2;clear da;go_simp;refine cq hK (⟨q0,q5,q2⟩) (λaC=>?_);refine kN 13 33 (λ_ _ _ h=>dE 33 (by decide) h) ?_;refine kN 14 47 (λ_ _ _ h=>dE 47 (by decide) h) ?_;refine kN 15 48 (λ_ _ _ h=>dE 48 (by decide) h) ?_;refine kN 16 8 (λ_ _ _ h=>dE 8 (by decide) h) ?_
   refine kN 17 9 (λ_ _ _ h=>dE 9 (by decide) h) ?_;refine jp ?_ _;go_wp2_with fail;have LU:=xh<|L2.o.below ((Below.refl _ _).drew);have r0:=LU.o.bx.bi 0;have r1:=LU.o.at_.f0;have r6:=LU.o.at_.f6;clear q0 q5 q2;unfold dp at r1
   refine kw (λW'=>W'.cell? ⟨w.heap.size,0,none⟩=some (st (some ⟨x.b,0,none⟩))/\W'.cell? ⟨x.b,0,none⟩=some (st (some ⟨x.L.b,0,none⟩))/\W'.cell? ⟨x.b,6,none⟩=some (U5 U6 c.slot)) (⟨r0,r1,r6⟩) (λaC=>?_);refine kN 0 49 (λ_ _ _ h=>dE 49 (by decide) h) ?_;refine kN 1 50 (λ_ _ _ h=>dE 50 (by decide) h) ?_;refine kN 2 51 (λ_ _ _ h=>dE 51 (by decide) h) ?_;refine kN 3 52 (λ_ _ _ h=>dE 52 (by decide) h) ?_
   refine kN 4 53 (λ_ _ _ h=>dE 53 (by decide) h) ?_;refine kN 5 54 (λ_ _ _ h=>dE 54 (by decide) h) ?_;refine kN 6 55 (λ_ _ _ h=>dE 55 (by decide) h) ?_;refine kN 7 56 (λ_ _ _ h=>dE 56 (by decide) h) ?_;refine kN 8 57 (λ_ _ _ h=>dE 57 (by decide) h) ?_;refine kN 9 58 (λ_ _ _ h=>dE 58 (by decide) h) ?_;refine dV 10 59 λK hK=>?_;go_simp
   go_at_call 103
   refine(KW.o _ LU.o).mono ?_;rintro e v3 ⟨rfl,D3,o3⟩;have L3:=xh<|LU.o.step (LU.o.at_.Gj D3 o3) o3;have r0:=L3.o.bx.bi 0;have r1:=L3.o.at_.f0;have r6:=L3.o.at_.f6;unfold dp at r1;clear D3 o3;go_simp;refine cq hK (⟨r0,r1,r6⟩) (λaC=>?_);refine dV 11 60 λK hK=>?_;go_simp
   go_at_call 199
   by_cases hwe:we=0
   rotate_left
   .refine(xg we hwe _).mono ?_;rintro e v4 ⟨rfl,rfl⟩;dsimp only;have LZ:=L3;rw[U8 (by exact hwe)]at yN;refine leaves_cons (f:=196) (args:= #[st (some ⟨w.heap.size+1,0,none⟩)]) (by simp) (by simp[go_sem]) ?_;refine(kJ ⟨w.heap.size+1,0,none⟩ 0 we [] _ (LZ.o.bo.bi 0) (LZ.o.bo.frozen 0 (by simp))).mono ?_;rintro e u' Ur ⟨rfl,rfl,rfl⟩;obtain⟨y1,y2,y3⟩:=LZ.o.o (U5 U6 we);refine⟨U5 U6 we,?_,?_⟩
    .rw[eE rfl];clear y1 y2;go_simp
    .subst yN;exact⟨rfl,y1,y2⟩
   subst hwe;rw[i8]at yN;refine(Cf _).mono ?_;rintro e v4 ⟨rfl,rfl⟩;go_simp;refine cq hK (⟨r0,r1,r6⟩) (λaC=>?_);refine jp ?_ _;have KS2:=xh (λ(W:BY) (hW:pL w W x n c wd (U3 A i cc) (Rt.cy parts))=>Db hW.at_.hd (by show wd.calls<=_;omega) b3.2);rw[show({c with d:=wd}:C).d=wd from rfl]at KS2;generalize wd.cX=s3 at *;obtain⟨zd,ze⟩:=s3;dsimp only at KS2 yN;subst yN
   have f3:v3.cell? ⟨w.heap.size,0,none⟩=some (st (some ⟨x.b,0,none⟩)):=r0;have g3:v3.cell? ⟨x.b,0,none⟩=some (st (some ⟨x.L.b,0,none⟩)):=r1;clear r0 r1 r6;go_wp2_with fail;refine(KS2.o _ L3.o).mono ?_;rintro e v5 ⟨rfl,D5,o5⟩;have L5:=xh<|L3.o.step (L3.o.at_.Gj D5 o5) o5;clear D5 o5;go_wp2_with fail
   by_cases hze:ze=0
   .subst hze;refine(Cf _).mono ?_;rintro e vm ⟨rfl,rfl⟩;have o1:=L5.o.bo.bi 0;have o2:=L5.o.bo.frozen 0 (by simp);go_wp2_with fail;refine leaves_cons (f:=196) (args:= #[st (some ⟨w.heap.size+1,0,none⟩)]) (by simp) (by simp[go_sem]) ?_;refine(Ql ⟨w.heap.size+1,0,none⟩ _).mono ?_;rintro e u' Ur ⟨rfl,rfl,rfl⟩;obtain⟨y1,y2,y3⟩:=L5.o.o (U5 U6 0);refine⟨U5 U6 0,?_,?_⟩
    .rw[eE rfl];clear y1 y2;go_simp
    .exact⟨rfl,y1,y2⟩
   .skip
    refine(xg ze hze _).mono ?_;rintro e vm ⟨rfl,rfl⟩;dsimp only;have LZ:=L5;refine leaves_cons (f:=196) (args:= #[st (some ⟨w.heap.size+1,0,none⟩)]) (by simp) (by simp[go_sem]) ?_;refine(kJ ⟨w.heap.size+1,0,none⟩ 0 ze [] _ (LZ.o.bo.bi 0) (LZ.o.bo.frozen 0 (by simp))).mono ?_;rintro e u' Ur ⟨rfl,rfl,rfl⟩;obtain⟨y1,y2,y3⟩:=LZ.o.o (U5 U6 ze);refine⟨U5 U6 ze,?_,?_⟩
    .rw[eE rfl];clear y1 y2;go_simp
    .exact⟨rfl,y1,y2⟩
section
variable{w w':BY}{x:X}{n:Nat}{c:C}
def At.Jw(h:At w x n c){g:Nat}{cs:Array By}(B:aM w g 146 cs):g≠x.mb/\g≠x.mg/\g∉x.L.fp/\∀{v:By} {k:Nat} {l:List By},Sl w 3 v k l->g∉cB v:=by
 refine⟨λe=>by subst e;exact B.mx h.hm.hb ms rfl,λe=>by subst e;exact B.mx h.hm.hg ms rfl,λhg=>?_,λS hg=>?_⟩
 .simp only[Loc.fp,ax,iD,or_false]at hg
  rcases hg with rfl|rfl|rfl|rfl
  .exact B.mx h.hd.hb ms rfl
  .exact B.mx h.hd.hN ms rfl
  .exact B.mx h.hd.hO ms rfl
  .exact B.mx h.hd.hL ms rfl
 .obtain⟨cs',B'⟩:=vC S _ hg;exact B.mx B' ms rfl
def At.newT(h:At w x n c){v':By}{l:List Int}(S:Sl w 3 v' l.length (di l))(hg:x.mg∉cB v')(ho:∀g∈cB v',g∉cB x.ov)(hp:∀g∈cB v',g∉cB x.pv)(hl:l.length<=512):
  w.cell? ⟨x.b,2,none⟩=some x.tv/\w.frozen? ⟨x.b,2,none⟩=false/\At (w.setCell ⟨x.b,2,none⟩ v') {x with tv:=v'} n {c with table:=l}/\ah [x.b] w (w.setCell ⟨x.b,2,none⟩ v'):=by
 have o2:=(ah.refl [x.b] w).setCell (p:=⟨x.b,2,none⟩) lw v';obtain⟨n1,n2,n3,n4⟩:=h.Jw h.hb;have ns:∀{v:By} {k:Nat} {l:List By},Sl w 3 v k l->∀g∈cB v,g∉[x.b]:=λS g hg hm=>n4 S (by rw[<-aG.1 hm];exact hg)
 exact⟨h.f2,h.fz 2 ls,⟨h.hb.ct 2 v',h.hd.only o2 (λg hg hm=>n3 (by rw[<-aG.1 hm];exact hg)),h.hm.only o2 (λhm=>n1 (aG.1 hm).symm) (λhm=>n2 (aG.1 hm).symm),S.only o2 (ns S),h.ho.only o2 (ns h.ho),h.hp.only o2 (λg hg hm=>h.hp.bh h.hb ms ms (by rw[<-aG.1 hm];exact hg)),hg,h.n2,h.n3,ho,hp,h.n6,hl⟩,o2⟩
def At.newC(h:At w x n c){vo vp:By}{lo lp:List Int}(So:Sl w 3 vo lo.length (di lo))(Sp:Sl w 3 vp lp.length (di lp))(go:∀g∈cB vo,g∉x.fp)(gp:∀g∈cB vp,g∉x.fp)(op:∀g∈cB vo,g∉cB vp)(ep sl:Int):
  At ((((w.setCell ⟨x.b,3,none⟩ vo).setCell ⟨x.b,4,none⟩ vp).setCell ⟨x.b,5,none⟩ ep).setCell ⟨x.b,6,none⟩ sl) {x with ov:=vo,pv:=vp} n {c with aR:=lo,parts:=lp,ep:=ep,slot:=sl}/\
  ah [x.b] w ((((w.setCell ⟨x.b,3,none⟩ vo).setCell ⟨x.b,4,none⟩ vp).setCell ⟨x.b,5,none⟩ ep).setCell ⟨x.b,6,none⟩ sl):=by
 have o2:ah [x.b] w ((((w.setCell ⟨x.b,3,none⟩ vo).setCell ⟨x.b,4,none⟩ vp).setCell ⟨x.b,5,none⟩ ep).setCell ⟨x.b,6,none⟩ sl):=((((ah.refl [x.b] w).setCell (p:=⟨x.b,3,none⟩) lw _).setCell (p:=⟨x.b,4,none⟩) lw _).setCell (p:=⟨x.b,5,none⟩) lw _).setCell (p:=⟨x.b,6,none⟩) lw _;obtain⟨n1,n2,n3,n4⟩:=h.Jw h.hb
 have ns:∀{v:By} {k:Nat} {l:List By},Sl w 3 v k l->∀g∈cB v,g∉[x.b]:=λS g hg hm=>n4 S (by rw[<-aG.1 hm];exact hg)
 exact⟨⟨(((h.hb.ct 3 vo).ct 4 vp).ct 5 _).ct 6 _,h.hd.only o2 (λg hg hm=>n3 (by rw[<-aG.1 hm];exact hg)),h.hm.only o2 (λhm=>n1 (aG.1 hm).symm) (λhm=>n2 (aG.1 hm).symm),h.ht.only o2 (ns h.ht),So.only o2 (ns So),.inl (Sp.only o2 (ns Sp)),h.n1,λhg=>go _ hg (by simp[X.fp]),λhg=>gp _ hg (by simp[X.fp]),λg hg hm=>go g hm (by simp[X.fp,hg]),λg hg hm=>gp g hm (by simp[X.fp,hg]),op,h.tl⟩,o2⟩
end
def C.bt(c:C):C:={c with m:=Fm.iV 1 0 c.m,table:=c.aR}
def Qm{w:BY}{x:X}{n:Nat}{c:C}(h:At w x n c)(hol:c.aR.length<=512):
  Calls prog 101 #[sp x.b] w λe w'=>e=fd (.bool true)/\Be w w' x n c.bt:=by
 have f1:=h.f1;have KA:=xh<|Fm.UM h.hm;have HM:=xh (λ(W':BY) (mm:Fm.dQ W' x.mb x.mg (Fm.iV 1 0 c.m)) (ow:ah [x.mg] w W')=>h.map mm ow);have KC:=xh (λ(W:BY) (c':C) (hW:At W x n c') (hl:c'.aR.length<=512)=>DI hW.ho ls);have rD:=xh h.lt;clear h;unfold sp Fm.mp at *;go_in;go_wp2_with fail;go_call KA.o as e w1 ⟨rfl,mm,ow⟩;have A1:=xh<|HM.o _ mm ow;have O1:=xh ow;have f3:=A1.o.f3
 obtain⟨VA,vc,hv,_⟩:=A1.o.ho.val;have K2:=KC.o w1 _ A1.o hol;rw[hv]at K2 f3;have K2:=xh K2;have HV:=xh hv;clear mm ow f1 hv;go_wp2_with fail;go_call K2.o as e w2 ⟨v',rfl,S2,da,GW⟩;have A2:=A1.o.below da;obtain⟨V2,c2,rfl,_⟩:=S2.val;obtain⟨q2,z2,A3,o3⟩:=A2.newT S2 (λhg=>by have:=A1.o.hm.hg.lt;have:=GW _ hg;omega) (λg hg ho=>by have:=A1.o.ho.lt g ho;have:=GW g hg;omega) (λg hg ho=>by have:=A1.o.hp.lt g ho;have:=GW g hg;omega) hol
 have R:=xh (show Be w (w2.setCell ⟨x.b,2,none⟩ (U3 V2 c.aR.length c2)) x n c.bt from
  ⟨{x with tv:=U3 V2 c.aR.length c2},rfl,rfl,A3,((O1.o.mono (λg hg _=>uV x g hg)).trans (.aj da)).trans (o3.mono (λg hg _=>by simp at hg;subst hg;simp[X.fp])),λg hg=>by
   simp only[X.fp,ax,aK]at hg ⊢
   rcases hg with hg|hg|hg|((hg|hg)|hg)|hg
   .exact .inl (.inl hg)
   .exact .inl (.inr (.inl hg))
   .exact .inl (.inr (.inr (.inl hg)))
   .exact .inl (.inr (.inr (.inr (.inl (.inl (.inl hg))))))
   .exact .inr (by have:=GW g hg;have:=O1.o.size;omega)
   .exact .inl (.inr (.inr (.inr (.inl (.inr hg)))))
   .exact .inl (.inr (.inr (.inr (.inr hg))))⟩)
 clear S2 da GW A2 A3 o3;go_wp2;go_ret;exact bz R.o
end Sh
namespace Sh
open Go.RowKit Pk Dk Pg
def lR(t:List Int):Nat->Nat
 |0=>0
 |k+1=>if t.getD k 0<0 then lR t k else k+1
def nV(t:List Int)(k:Nat):lR t (k+1)=if t.getD k 0<0 then lR t k else k+1:=rfl
def DJ(t:List Int):∀k,lR t k<=k
 |0=>ai _
 |k+1=>by
  rw[nV]
  split
  .have:=DJ t k;omega
  .exact ai _
def takeN(m:List Int):Nat->List Int×List Int
 |0=>(m,[])
 |k+1=>((Fm.cP (takeN m k).1).1,(takeN m k).2++[(Fm.cP (takeN m k).1).2.1])
def pM(m:List Int):∀k,(takeN m k).2.length=k
 |0=>rfl
 |k+1=>by show((takeN m k).2++_).length=_;rw[bC,pM m k];rfl
def cO(m:List Int):List Int->List Int
 |[]=>m
 |p::l=>cO (Fm.du m p).1 l
def Jx(m:List Int)(a b:List Int):cO m (a++b)=cO (cO m a) b:=by
 induction a generalizing m with
 |nil=>rfl
 |cons p l ih=>exact ih _
def C.bf(c:C):C:={c with table:=c.table.take (lR c.table c.table.length)}
def C.an(c:C)(n:Nat):C×Int:=
 if(Fm.gY c.m 0).length<cd c.bf.table.length then(c.bf,11)
 else if 1099511627776<=c.ep then(c.bf,3)
 else if(({c.bf with m:=(takeN c.m (cd c.bf.table.length)).1}:C).bM n ((takeN c.m (cd c.bf.table.length)).2.map Int.toNat)).2≠0 then
  ({c.bf with m:=(takeN c.m (cd c.bf.table.length)).1,d:=(({c.bf with m:=(takeN c.m (cd c.bf.table.length)).1}:C).bM n ((takeN c.m (cd c.bf.table.length)).2.map Int.toNat)).1,broken:=true},(({c.bf with m:=(takeN c.m (cd c.bf.table.length)).1}:C).bM n ((takeN c.m (cd c.bf.table.length)).2.map Int.toNat)).2)
 else({c.bf with m:=Fm.iV 0 1 (cO (takeN c.m (cd c.bf.table.length)).1 c.parts),d:=(({c.bf with m:=(takeN c.m (cd c.bf.table.length)).1}:C).bM n ((takeN c.m (cd c.bf.table.length)).2.map Int.toNat)).1,aR:=c.bf.table,parts:=(takeN c.m (cd c.bf.table.length)).2,ep:=c.ep+1,slot:=1-c.slot},0)
def Te(w:BY)(b:Nat):Nat:=match w.cell? ⟨b,2,none⟩with
 |some (U3 _ n _)=>n
 |_=>0
def Cg(k:Nat):Rt.oT (k:Nat)=(cd k:Nat):=by unfold Rt.oT cd;omega
def YA(A:Option Addr)(k m c:Nat):cB (U3 A k c)=cB (U3 A m c):=by cases A<;>rfl
abbrev vG:=Option (Bool×UV)
def jy(l:List (Option (UV))):List vG:=l.map λo=>o.map λb=>(false,b)
@[simp] theorem Ak(l:List (Option (UV))):(jy l).length=l.length:=by simp[jy]
section
variable{w w':BY}{b:Nat}{nv ov:By}{a:St}{S:List Nat}
end
attribute [local go_sem ↓] bP
end Sh
namespace Sh
open Go.RowKit Pk Dk Pg
def St.ao(a:St)(l:Int)(p:UV):St×Int:=
 if 232<p.length then(a,4)
 else if ¬(a.at l).isSome=true then(a,3)
 else if im (a.at l)=false/\a.free=0 then(a,11)
 else({a with now:=a.now.set l.toNat (some (true,ff p 232))},0)
attribute [local go_sem ↓] bP
def k6(l:List vG):Nat->Nat
 |0=>0
 |k+1=>if((l[k]?).getD none).isSome then k+1 else k6 l k
def LM(l:List vG):∀k,k6 l k<=k
 |0=>ai _
 |k+1=>by
  unfold k6
  split
  .exact ai _
  .have:=LM l k;omega
def St.dW(a:St):List (Option (UV)):=(a.now.take (k6 a.now a.now.length)).map λo=>o.map Prod.snd
def unfr(o:vG):vG:=o.map λx=>(false,x.2)
def YC(a:St):jy a.dW=(a.now.take (k6 a.now a.now.length)).map unfr:=by
 unfold jy St.dW;rw[iQ];apply gm;intro o _
 cases o<;>rfl
def St.an(a:St):St×Int:=if a.free<cd a.dW.length then(a,11)else({a with now:=jy a.dW,aR:=a.dW,ep:=a.ep+1},0)
def DK(a:St):a.dW.length<=a.now.length:=by
 unfold St.dW;rw[eZ,bY];omega
end Sh
namespace Sh
open Go.RowKit Pk Dk Pg
def YD(l:List vG)(o:List vG)(i:Nat):Bool:=((o[i]?).getD none).isSome && (!((l[i]?).getD none).isSome || im ((l[i]?).getD none))
def Jy(l:List vG)(o:List vG):Nat->Nat
 |0=>0
 |k+1=>Jy l o k+if YD l o k then 1 else 0
def St.leaving(a:St):Nat:=Jy a.now (jy a.aR) a.aR.length
end Sh
namespace Sh
open Go.RowKit Pk Dk Pg
variable{c:C}{n:Nat}
def LP(a b:Int)(l:List Int)(i:Nat)(hi:i<l.length):(Fm.iV a b l).getD i 0=Fm.oS a b (l.getD i 0):=by
 unfold Fm.iV;simp only[List.getD,iM,aQ hi,mr,j0]
def Qn(g:Good c n):Good c.bt n/\c.bt.bU n={c.bU n with now:=jy (c.bU n).aR}/\c.bt.d=c.d:=by
 have qs:c.bt.m.length=c.m.length:=by unfold C.bt Fm.iV;simp
 have hk:∀x,db c.bt x=if x∈c.parts then 1 else if x∈c.aR then 1 else 0:=by
  intro x;unfold db C.bt
  by_cases h1:x∈c.parts
  .simp[h1]
  .by_cases h2:x∈c.aR
   .simp[h1,h2]
   .simp[h1,h2]
 refine⟨⟨g.up,g.arm,g.br,g.ok,qs.trans g.ml,g.ep,g.sl,by rw[qs];exact g.oi,by rw[qs];exact g.oi,by rw[qs];exact g.pi,g.oj,g.oj,g.pj,λx hx=>⟨(g.dt x hx).2,(g.dt x hx).2⟩,g.pl,λi x hi _ _=>hi,λi hi=>?_,λx hx h0=>?_,g.ro⟩,?_,rfl⟩
 .rw[qs]at hi;rw[hk,show c.bt.m=Fm.iV 1 0 c.m from rfl,LP _ _ _ _ hi,g.md i hi];unfold db Fm.oS
  by_cases h1:(i:Int)∈c.parts
  .simp[h1]
  .by_cases h2:(i:Int)∈c.aR
   .by_cases h3:(i:Int)∈c.table<;>simp[h1,h2,h3]
   .by_cases h3:(i:Int)∈c.table<;>simp[h1,h2,h3]
 .obtain⟨q,s,q1,q2,q3,q4⟩:=g.ro x hx h0;exact⟨q,s,q1,by show q<=c.ep+1;omega,q3,q4⟩
 .unfold C.bU;rw[qs];simp only[St.mk.injEq,true_and];refine⟨?_,rfl,rfl⟩;show c.aR.map (C.dv c.bt n)=jy (c.aR.map _);unfold jy;rw[iQ];refine gm (λx hx=>?_);unfold C.dv;simp only[Function.comp]
  by_cases h:x<0
  .rw[U8 h,U8 h];rfl
  .rw[U9 h,U9 h];show some (decide (x∉c.aR),_)=some (false,_);simp[hx];rfl
def DL(g:Good c n){k:Nat}(hk:k<c.m.length)(p:UV)(hp:p.length<=232):
  (bq c.d n k (c.ep+1) 2 p).2=0/\∀d',d'=(bq c.d n k (c.ep+1) 2 p).1->d'.down=false/\d'.aq=0/\d'.Ok n/\d'.calls<=c.d.calls+4/\aV d' n k=(⟨k,c.ep+1,2,ff p 232⟩,0)/\
   ∀x:Int,0<=x->x<c.m.length->x≠k->aV d' n x=aV c.d n x:=by
 have e:=g.ep;obtain⟨h1,h2,h3,h4,h5⟩:=nR g.ok g.up g.arm k (c.ep+1) 2 p (j9 g hk) (by rw[qE];omega) hp;refine⟨h1,λd' hd=>?_⟩;subst hd;refine⟨h2,h3,kQ g.ok _ _ _ _,(nC _ _ _ _ _ _ (by rw[g.arm];omega)).1,h4,λx hx hx1 fy=>?_⟩;have:=h5 x.toNat (j9 g ls) ls
 rwa [show((x.toNat:Nat):Int)=x by omega]at this
def Qo(g:Good c n){x:Nat}(hx:x<c.m.length)(ht:(x:Int)∈c.table):Fm.bA c.m (x:Int)=decide ((x:Int)∉c.aR):=by
 unfold Fm.bA;rw[show Fm.yD c.m (x:Int)=true from by unfold Fm.yD;simp;omega,show((x:Nat):Int).toNat=x by omega,g.md x hx];unfold db;rw[U9 (λh=>(g.dt _ h).1 ht)]
 by_cases ho:(x:Int)∈c.aR
 .simp[ho,ht]
 .simp[ho,ht]
def Al{α β:Type}(f f':α->β)(t:List α)(k:Nat)(u:α)(v:β)(hu:f' u=v)(h:∀i x,t[i]?=some x->i≠k->f' x=f x):(t.set k u).map f'=(t.map f).set k v:=by
 apply lr;intro i;rw[iM,kq,kq,iM,eZ]
 by_cases e:k=i
 .subst e;rw[U8 rfl,U8 rfl]
  by_cases hl:k<t.length
  .rw[U8 hl,U8 hl,mr,hu]
  .rw[U9 hl,U9 hl];rfl
 .rw[U9 e,U9 e]
  cases hx:t[i]? with
  |none=>rfl
  |some x=>rw[mr,mr,h i x hx (λh=>e h.symm)]
def Qp(g:Good c n)(l:Int)(p:UV):
  Good (c.ao n l p).1 n/\(c.ao n l p).1.bU n=((c.bU n).ao l p).1/\(c.ao n l p).2=((c.bU n).ao l p).2/\(c.ao n l p).1.d.calls<=c.d.calls+4:=by
 obtain⟨h1,h2⟩:=Ce g l;unfold C.ao St.ao;rw[U9 (by rw[g.br];simp),Dy g]
 by_cases hp:232<p.length
 .rw[U8 hp,U8 hp];exact⟨g,rfl,rfl,by show c.d.calls<=_;omega⟩
 rw[U9 hp,U9 hp]
 by_cases hh:c.uP l=true
 .obtain⟨k,x,rfl,hk,hx,e⟩:=h2 hh;have OE:x<c.m.length:=ls
  have hxt:=ay hk;have e2:c.table.getD ((k:Nat):Int).toNat 0=(x:Int):=by rw[show((k:Nat):Int).toNat=k by omega];simp[List.getD,hk]
  rw[U8 hh,U9 (show ¬(0:Int)≠0 by simp),U9 (show ¬ ¬((c.bU n).at ((k:Nat):Int)).isSome=true by rw[h1.1 hh];simp),e2,e,show((k:Nat):Int).toNat=k by omega];have Ca:c.dv n (x:Int)=some (decide ((x:Int)∉c.aR),(aV c.d n x).1.s):=by unfold C.dv;rw[ge]
  rw[Ca,Qo g OE hxt];have vz:=g.ep
  by_cases ho:(x:Int)∈c.aR
  .rw[U9 (show ¬decide ((x:Int)∉c.aR)=true by simp[ho])]
   by_cases hf:(c.bU n).free=0
   .have Lw:c.bA n p=(c,0,11):=by unfold C.bA;rw[yI g hf,i9]
    rw[Lw];dsimp only;rw[U8 (show(11:Int)≠0 by decide),U8 (show(im (some (decide ((x:Int)∉c.aR),(aV c.d n x).1.s))=false/\(c.bU n).free=0)from⟨by simp[im,ho],hf⟩)];exact⟨g,rfl,rfl,by show c.d.calls<=_;omega⟩
   .rw[U9 (show ¬(im (some (decide ((x:Int)∉c.aR),(aV c.d n x).1.s))=false/\(c.bU n).free=0)from λh=>hf h.2)];obtain⟨j,hj,h0,ht⟩:=yH g hf;obtain⟨z1,z2,z3⟩:=Lz h0;obtain⟨W0,W⟩:=DL g hj p ls;have Lw:c.bA n p=({c with m:=c.m.set j 2,d:=(bq c.d n j (c.ep+1) 2 p).1},(j:Int),0):=by
     unfold C.bA;rw[ht,i8,U9 (by rw[W0];simp)]
    rw[Lw];dsimp only;rw[U9 (show ¬(0:Int)≠0 by simp)];obtain⟨w1,w2,w3,w4,w5,w6⟩:=W _ rfl;generalize (bq c.d n j (c.ep+1) 2 p).1=d' at *;have hjx:j≠x:=λe=>z3 (by rw[e];exact hxt);have hlv:(Fm.du (c.m.set j 2) (x:Int)).1=(c.m.set j 2).set x 3:=by
     unfold Fm.du;rw[show Fm.yD (c.m.set j 2) (x:Int)=true from by unfold Fm.yD;simp;omega,U8 rfl,show((x:Nat):Int).toNat=x by omega,jE _ _ _ _ OE,U9 hjx,g.md x OE];unfold db;rw[U9 (λh=>(g.dt _ h).1 hxt),U8 ho,U8 hxt];simp
    dsimp only;rw[hlv];have mt:∀y:Int,0<=y->(y∈c.table.set k (j:Int)↔y=j\/(y∈c.table/\y≠x)):=by
     intro y hy
     constructor
     .intro hm;obtain⟨i,hi⟩:=ko hm;rw[kq]at hi
      by_cases e3:k=i
      .rw[U8 e3]at hi
       split at hi
       .injection hi with hi;exact .inl hi.symm
       .cases hi
      .rw[U9 e3]at hi;exact .inr ⟨ay hi,λe4=>e3 (g.tj k i y (by rw[e4];exact hk) hi hy)⟩
     .rintro(rfl|⟨hm,fy⟩)
      .have lQ:k<c.table.length:=(aW.1 hk).1;exact ay (show(c.table.set k (j:Int))[k]?=some (j:Int) by rw[eK lQ])
      .obtain⟨i,hi⟩:=ko hm;have:(c.table.set k (j:Int))[i]?=some y:=by
        rw[kq,U9 (λe3=>fy (by subst e3;rw[hk]at hi;injection hi with hi;exact hi.symm))];exact hi
       exact ay this
    have hrd:∀y∈c.table,0<=y->aV d' n y=aV c.d n y:=λy hy h0=>by
     have:=g.ti y hy;exact w6 y h0 ls (λe3=>z3 (by rw[<-e3];exact hy))
    have YE:∀y∈c.aR,0<=y->aV d' n y=aV c.d n y:=λy hy h0=>by
     have:=g.oi y hy;exact w6 y h0 ls (λe3=>z2 (by rw[<-e3];exact hy))
    have DH:∀y:Int,y<0->y∈c.table.set k (j:Int)->y∈c.table:=λy hy hm=>by
     rcases oJ hm with h|h
     .exact h
     .omega
    refine⟨⟨w1,w2,g.br,w3,by show((c.m.set j 2).set x 3).length=_;rw[bR,bR];exact g.ml,g.ep,g.sl,?_,?_,?_,?_,g.oj,g.pj,?_,g.pl,?_,?_,?_,?_⟩,?_,rfl,w4⟩
    .intro y hy;show y= -1\/0<=y/\y<(((c.m.set j 2).set x 3).length:Int);rw[bR,bR]
     by_cases h0:0<=y
     .rcases(mt y h0).1 hy with rfl|⟨h,_⟩
      .omega
      .exact g.ti y h
     .exact g.ti y (DH y ls hy)
    .intro y hy;show y= -1\/0<=y/\y<(((c.m.set j 2).set x 3).length:Int);rw[bR,bR];exact g.oi y hy
    .intro y hy;show 0<=y/\y<(((c.m.set j 2).set x 3).length:Int);rw[bR,bR];exact g.pi y hy
    .exact g.tj.ct k _ (.inr z3)
    .intro y hy;refine⟨λhm=>?_,(g.dt y hy).2⟩
     rcases(mt y (g.pi y hy).1).1 hm with rfl|⟨h,_⟩
     .exact z1 hy
     .exact(g.dt y hy).1 h
    .intro i y hi hy hyo;have hi:(c.table.set k (j:Int))[i]?=some y:=hi;rw[kq]at hi
     split at hi
     .split at hi
      .injection hi with hi
       subst hi;exact eq hyo z2
      .cases hi
     .exact g.sm i y hi hy hyo
    .intro i hi;have hi:i<c.m.length:=by simpa using hi
     show((c.m.set j 2).set x 3).getD i 0=db _ (i:Int);rw[jE _ _ _ _ (by rw[bR];exact hi),jE _ _ _ _ hi];have Xe:db {c with d:=d',m:=(c.m.set j 2).set x 3,table:=c.table.set k (j:Int)} (i:Int)=if(i:Int)∈c.parts then 1 else if(i:Int)∈c.aR then(if(i:Int)∈c.table.set k (j:Int)then 1 else 3)else if(i:Int)∈c.table.set k (j:Int)then 2 else 0:=rfl
     rw[Xe];simp only[mt (i:Int) ls]
     by_cases ei:x=i
     .subst ei;rw[U8 rfl,U9 (λh=>(g.dt _ h).1 hxt),U8 ho,ge]
     .rw[U9 ei]
      by_cases ej:j=i
      .subst ej;rw[U8 rfl,U9 z1,U9 z2,U8 (.inl rfl)]
      .rw[U9 ej,g.md i hi];unfold db;have:((i:Int)=(j:Int)\/(i:Int)∈c.table/\(i:Int)≠(x:Int))↔(i:Int)∈c.table:=by
        constructor
        .rintro(h|h)
         .omega
         .exact h.1
        .exact λh=> .inr ⟨h,ls⟩
       simp only[this]
    .intro y hy h0
     rcases(mt y h0).1 hy with rfl|⟨h,_⟩
     .exact⟨c.ep+1,_,ls,dG _,sg p ls,w5⟩
     .obtain⟨q,s,q1,q2,q3,q4⟩:=g.rt y h h0;exact⟨q,s,q1,q2,q3,(hrd y h h0).trans q4⟩
    .intro y hy h0;obtain⟨q,s,q1,q2,q3,q4⟩:=g.ro y hy h0;exact⟨q,s,q1,q2,q3,(YE y hy h0).trans q4⟩
    .unfold C.bU;simp only[bR,St.mk.injEq,true_and,and_true];refine⟨?_,?_⟩
     .refine Al _ _ _ _ _ _ ?_ (λi y hi _=>?_)
      .unfold C.dv;rw[ge];simp only[w5];simp[z2]
      .unfold C.dv
       by_cases h:y<0
       .rw[U8 h,U8 h]
       .rw[U9 h,U9 h];simp only[hrd y (ay hi) ls]
     .refine gm (λy hy=>?_)
      by_cases h:y<0
      .rw[U8 h,U8 h]
      .rw[U9 h,U9 h];simp only[YE y hy ls]
  .rw[U8 (show decide ((x:Int)∉c.aR)=true by simp[ho]),U9 (show ¬(im (some (decide ((x:Int)∉c.aR),(aV c.d n x).1.s))=false/\(c.bU n).free=0) by simp[im,ho])];obtain⟨W0,W⟩:=DL g OE p ls;rw[W0];obtain⟨w1,w2,w3,w4,w5,w6⟩:=W _ rfl;generalize (bq c.d n x (c.ep+1) 2 p).1=d' at *;have YE:∀y∈c.aR,0<=y->aV d' n y=aV c.d n y:=λy hy h0=>by
    have:=g.oi y hy;exact w6 y h0 ls (λe3=>ho (by rw[<-e3];exact hy))
   have hrd:∀y∈c.table,0<=y->y≠x->aV d' n y=aV c.d n y:=λy hy h0 fy=>by
    have:=g.ti y hy;exact w6 y h0 ls fy
   refine⟨⟨w1,w2,g.br,w3,g.ml,g.ep,g.sl,g.ti,g.oi,g.pi,g.tj,g.oj,g.pj,g.dt,g.pl,g.sm,g.md,λy hy h0=>?_,λy hy h0=>?_⟩,?_,rfl,w4⟩
   .by_cases ey:y=x
    .subst ey;exact⟨c.ep+1,_,ls,dG _,sg p ls,w5⟩
    .obtain⟨q,s,q1,q2,q3,q4⟩:=g.rt y hy h0;exact⟨q,s,q1,q2,q3,(hrd y hy h0 ey).trans q4⟩
   .obtain⟨q,s,q1,q2,q3,q4⟩:=g.ro y hy h0;exact⟨q,s,q1,q2,q3,(YE y hy h0).trans q4⟩
   .unfold C.bU;simp only[St.mk.injEq,true_and,and_true];refine⟨?_,?_⟩
    .have:=Al (c.dv n) (C.dv {c with d:=d'} n) c.table k (x:Int) (some (true,ff p 232)) (by
      unfold C.dv;rw[ge];simp only[w5];simp[ho]) (λi y hi fy=>by
      unfold C.dv
      by_cases h:y<0
      .rw[U8 h,U8 h]
      .rw[U9 h,U9 h];simp only[hrd y (ay hi) ls (λey=>fy (g.tj i k y hi (by rw[ey];exact hk) ls))])
     rw[<-this]
     congr 1
     apply lr;intro i;rw[kq]
     by_cases e3:k=i
     .subst e3;rw[U8 rfl,U8 (aW.1 hk).1,hk]
     .rw[U9 e3]
    .refine gm (λy hy=>?_)
     by_cases h:y<0
     .rw[U8 h,U8 h]
     .rw[U9 h,U9 h];simp only[YE y hy ls]
 .rw[U9 hh,U8 (show(3:Int)≠0 by decide)];have:((c.bU n).at l)=none:=by
   cases h:(c.bU n).at l with
   |none=>rfl
   |some v=>exact eq (h1.2 (by rw[h];rfl)) hh
  rw[this,U8 (show ¬(none:Option (Bool×UV)).isSome=true by simp)];exact⟨g,rfl,rfl,by show c.d.calls<=_;omega⟩
variable{n:Nat}{a:Int}{b d u:D}
def uc(l:List Bool)(k:Nat)(x:Bool)(i:Nat):(l.set k x).getD i false=if k=i/\k<l.length then x else l.getD i false:=by
 simp only[List.getD,kq]
 by_cases h:k=i
 .subst h
  by_cases h2:k<l.length
  .simp[h2]
  .simp[h2]
 .simp[h]
def Calm(n:Nat)(P:Nat->Prop)(d d':D):Prop:= ∀j,j<n->P j->sec d'.now j=sec d.now j/\(d.loose.getD j false=false->d'.loose.getD j false=false)
def Calm.refl{P:Nat->Prop}(d:D):Calm n P d d:=λ_ _ _=>⟨rfl,id⟩
def Calm.trans{P:Nat->Prop}{a c:D}(h:Calm n P a b)(k:Calm n P b c):Calm n P a c:=λj hj hp=>by
 obtain⟨h1,h2⟩:=h j hj hp;obtain⟨k1,k2⟩:=k j hj hp;exact⟨k1.trans h1,λe=>k2 (h2 e)⟩
def Calm.mono{P Q:Nat->Prop}{a:D}(h:Calm n P a b)(hq:∀j,j<n->Q j->P j):Calm n Q a b:=λj hj hp=>h j hj (hq j hj hp)
def kR(d:D):d.cG.1.now=d.now/\d.cG.1.loose=d.loose/\d.cG.1.aR=d.aR:=by
 unfold D.cG
 split
 .exact⟨rfl,rfl,rfl⟩
 .split<;>exact⟨rfl,rfl,rfl⟩
def Qq(d:D)(k j:Nat)(h:k≠j):(d.gE k).loose.getD j false=d.loose.getD j false:=by
 unfold D.gE
 split
 .rfl
 .show(d.loose.set k true).getD j false=_;rw[uc,U9 (λe=>h e.1)]
def qL{P:Nat->Prop}(fN:d.Ok n)(k:Int)(s:UV)(hP:∀j:Nat,(j:Int)=k->¬P j):Calm n P d (d.ao n k s).1:=by
 intro j hj hp;unfold D.ao
 by_cases h0:d.jb n k=0
 .rw[U8 h0];have hk:0<=k/\k<n:=by
   unfold D.jb at h0
   split at h0
   .cases h0
   .split at h0
    .assumption
    .cases h0
  have fy:k.toNat≠j:=λe=>hP j ls hp;obtain⟨c1,c2,_⟩:=kR (d.dh k.toNat s);rw[c1,c2];refine⟨?_,λe=>?_⟩
  .show sec (fA d.now k.toNat (kz s)) j=_;rw[wQ fN.now ls (j7 s) hj,U9 fy]
  .show(d.gE k.toNat).loose.getD j false=false;rw[Qq _ _ _ fy];exact e
 .rw[U9 h0];exact⟨rfl,id⟩
def Tf{P:Nat->Prop}(fN:d.Ok n)(k:Nat)(b:UV)(hP:∀j,k<=j->j<k+4->¬P j):∀i,i<=4->Calm n P d (w4 d n k b i).1
 |0,_=> .refl d
 |i+1,hi=>by
  have ih:=Tf fN k b hP i ls;unfold w4
  split
  .exact ih.trans (qL (Dd fN k b i) _ _ (λj e=>hP j ls ls))
  .exact ih
def oV{P:Nat->Prop}(fN:d.Ok n)(id ep kd:Int)(s:UV)(hP:∀j:Nat,2+4*id.toNat<=j->j<2+4*id.toNat+4->¬P j):Calm n P d (bq d n id ep kd s).1:=by
 unfold bq
 split
 .exact .refl d
 .split
  .exact .refl d
  .exact Tf fN _ _ hP 4 (ai _)
def G4(n j:Nat):(it n false).getD j false=false:=by
 simp only[List.getD,CF]
 split<;>rfl
def pN{P:Nat->Prop}:Calm n P d d.cX.1:=by
 intro j _ _;obtain⟨c1,c2,_⟩:=kR d;unfold D.cX
 split
 .exact⟨rfl,id⟩
 .split
  .exact⟨by show sec d.cG.1.now j=_;rw[c1],λ_=>G4 _ _⟩
  .rw[c1,c2];exact⟨rfl,id⟩
def qM(h:d.cX.2=0)(j:Nat):d.cX.1.loose.getD j false=false:=by
 unfold D.cX at h ⊢
 by_cases hd:d.down=true
 .rw[U8 hd]at h;cases h
 rw[U9 hd]at h ⊢
 by_cases hc:d.cG.2=0
 .rw[U8 hc];exact G4 _ _
 .rw[U9 hc]at h;exact eq h hc
def pO{d':D}(hd:d'.down=d.down)(x:Nat)(hx:x<cJ n)(h:∀j,2+4*x<=j->j<2+4*x+4->sec d'.now j=sec d.now j):aV d' n x=aV d n x:=by
 have e:(d'.now.drop (64*(2+4*x))).take 256=(d.now.drop (64*(2+4*x))).take 256:=by
  rw[nD,nD,h _ ls ls,h _ ls ls,h _ ls ls,h _ ls ls]
 unfold aV;rw[hd,show((x:Nat):Int).toNat=x by omega,e]
def arm(u:D)(a:Int):D:={u with aq:=a}
def nm(h:u.Ok n)(ha:0<=a):(arm u a).Ok n:=⟨h.now,h.aR,h.loose,h.small,ha,h.calls⟩
def YG(u:D)(a:Int)(k:Nat):(arm u a).gE k=arm (u.gE k) a:=by
 unfold D.gE;show(if u.loose.getD k false=true then _ else _)=_
 split<;>rfl
def Tg(u:D)(a:Int)(k:Nat)(s:UV):(arm u a).dh k s=arm (u.dh k s) a:=by
 unfold D.dh;rw[YG];rfl
def G5(hd:u.down=false)(h0:u.aq=0)(ha:0<=a):(1<=a/\(arm u a).cG.1.down=true/\(arm u a).cG.2=13)\/∃a',0<=a'/\a'<=a/\(arm u a).cG=(arm u.cG.1 a',u.cG.2):=by
 have e:u.cG=({u with calls:=u.calls+1},0):=by unfold D.cG;rw[U8 h0]
 rw[e];unfold D.cG;show(1<=a/\(if a=0 then _ else if a=1 then _ else _:D×Int).1.down=true/\(if a=0 then _ else if a=1 then _ else _:D×Int).2=13)\/∃a',0<=a'/\a'<=a/\(if a=0 then _ else if a=1 then _ else _:D×Int)=_
 by_cases e0:a=0
 .subst e0;exact .inr ⟨0,dG _,dG _,by rw[U8 rfl];rfl⟩
 .by_cases e1:a=1
  .rw[U9 e0,U8 e1];exact .inl ⟨ls,rfl,rfl⟩
  .rw[U9 e0,U9 e1];refine .inr ⟨a-1,ls,ls,?_⟩;show(({arm u a with calls:=u.calls+1,aq:=a-1,down:=false}:D),(0:Int))=_;unfold arm;rw[hd]
def YH(hd:u.down=false)(h0:u.aq=0):u.cG.1.down=false/\u.cG.1.aq=0:=by
 obtain⟨_,c2,c3⟩:=oR _ h0;exact⟨c3.trans hd,c2⟩
def YI(hd:u.down=false)(h0:u.aq=0)(n:Nat)(k:Int)(s:UV):(u.ao n k s).1.down=false/\(u.ao n k s).1.aq=0:=by
 unfold D.ao
 split
 .exact YH ((lV u _).2.trans hd) ((lV u _).1.trans h0)
 .exact⟨hd,h0⟩
def Sim(r r':D×Int)(a:Int):Prop:=(1<=a/\r'.1.down=true/\r'.2=13)\/∃a',0<=a'/\a'<=a/\r'=(arm r.1 a',r.2)
def G6(hd:u.down=false)(h0:u.aq=0)(ha:0<=a)(n:Nat)(k:Int)(s:UV):Sim (u.ao n k s) ((arm u a).ao n k s) a:=by
 unfold D.ao;show Sim _ (if(arm u a).jb n k=0 then _ else _) a;rw[show(arm u a).jb n k=u.jb n k from rfl]
 by_cases h:u.jb n k=0
 .rw[U8 h,U8 h,Tg];exact G5 (u:=u.dh k.toNat s) (show(u.gE k.toNat).down=false from(lV u _).2.trans hd) (show(u.gE k.toNat).aq=0 from(lV u _).1.trans h0) ha
 .rw[U9 h,U9 h];exact .inr ⟨a,ha,dG _,rfl⟩
def YJ(hd:u.down=false)(h0:u.aq=0)(n k:Nat)(b:UV):∀i,(w4 u n k b i).1.down=false/\(w4 u n k b i).1.aq=0
 |0=>⟨hd,h0⟩
 |i+1=>by
  obtain⟨h1,h2⟩:=YJ hd h0 n k b i;unfold w4
  split
  .exact YI h1 h2 _ _ _
  .exact⟨h1,h2⟩
def YK(hd:u.down=false)(h0:u.aq=0)(ha:0<=a)(n k:Nat)(b:UV):∀i,Sim (w4 u n k b i) (w4 (arm u a) n k b i) a
 |0=> .inr ⟨a,ha,dG _,rfl⟩
 |i+1=>by
  have ih:=YK hd h0 ha n k b i;obtain⟨u1,u2⟩:=YJ hd h0 n k b i;unfold w4
  rcases ih with⟨h0,h1,h2⟩|⟨a',h1,h3,h2⟩
  .rw[U9 (show ¬(w4 (arm u a) n k b i).2=0 by rw[h2];decide)];exact .inl ⟨h0,h1,h2⟩
  .rw[h2];dsimp only
   by_cases hz:(w4 u n k b i).2=0
   .rw[U8 hz,U8 hz]
    rcases G6 u1 u2 h1 n ((k:Int)+i) ((b.drop (64*i)).take 64)with⟨x0,x1,x2⟩|⟨a2,y1,y2,y3⟩
    .exact .inl ⟨ls,x1,x2⟩
    .exact .inr ⟨a2,y1,ls,y3⟩
   .rw[U9 hz,U9 hz];exact .inr ⟨a',h1,h3,rfl⟩
def ud(hd:u.down=false)(h0:u.aq=0)(n:Nat)(id ep kd:Int)(s:UV):(bq u n id ep kd s).1.down=false/\(bq u n id ep kd s).1.aq=0:=by
 unfold bq
 split
 .exact⟨hd,h0⟩
 .split
  .exact⟨hd,h0⟩
  .exact YJ hd h0 _ _ _ _
def qN(hd:u.down=false)(h0:u.aq=0)(ha:0<=a)(n:Nat)(id ep kd:Int)(s:UV):Sim (bq u n id ep kd s) (bq (arm u a) n id ep kd s) a:=by
 unfold bq
 split
 .exact .inr ⟨a,ha,dG _,rfl⟩
 .split
  .exact .inr ⟨a,ha,dG _,rfl⟩
  .exact YK hd h0 ha _ _ _ _
def LQ(hd:u.down=false)(h0:u.aq=0)(ha:0<=a):Sim u.cX (arm u a).cX a:=by
 obtain⟨c1,c2,c3⟩:=oR u h0;have e:u.cX=({u.cG.1 with loose:=it u.loose.length false},0):=by
  unfold D.cX;rw[U9 (by rw[hd];simp),U8 c1]
 rw[e];unfold D.cX;rw[U9 (show ¬(arm u a).down=true by show ¬u.down=true;rw[hd];simp)]
 rcases G5 hd h0 ha with⟨h0',h1,h2⟩|⟨a',h1,h3,h2⟩
 .rw[U9 (by rw[h2];decide)];exact .inl ⟨h0',h1,h2⟩
 .rw[h2];dsimp only;rw[U8 c1];exact .inr ⟨a',h1,h3,rfl⟩
def G7(h:d.Ok n)(C:Cr)(j:Nat)(hj:j<n):∃k,k<=64/\sec (d.kt C n).now j=if d.loose.getD j false=true then(sec d.now j).take k++(sec d.aR j).drop k else sec d.now j:=by
 have key:∀i,i<=n->(∀j,j<n->i<=j->sec (D.bZ C d i).1.now j=sec d.now j/\(D.bZ C d i).1.loose.getD j false=d.loose.getD j false)/\(D.bZ C d i).1.aR=d.aR/\
   (∀j,j<i->∃k,k<=64/\sec (D.bZ C d i).1.now j=if d.loose.getD j false=true then(sec d.now j).take k++(sec d.aR j).drop k else sec d.now j):=by
  intro i
  induction i with
  |zero=>exact λ_=>⟨λj _ _=>⟨rfl,rfl⟩,rfl,λj hj=>by omega⟩
  |succ i ih=>
   intro hi;obtain⟨h1,h2,h3⟩:=ih ls;obtain⟨fN,_⟩:=h.bZ C i ls;obtain⟨a1,a2⟩:=h1 i ls (ai _);simp only[D.bZ];rw[a2]
   by_cases hl:d.loose.getD i false=true
   .rw[U8 hl];obtain⟨k,hk⟩:∃k,k=C.kW (D.bZ C d i).2:=⟨_,rfl⟩;have Vd:k<=64:=by rw[hk];exact C.BR _
    have e1:=ev fN.now (show i<n by omega);have e2:=ev fN.aR (show i<n by omega);have hs:∀j,j<n->sec ((D.bZ C d i).1.kD C (D.bZ C d i).2 i).now j=if i=j then(sec (D.bZ C d i).1.now i).take k++(sec (D.bZ C d i).1.aR i).drop k else sec (D.bZ C d i).1.now j:=by
     intro j hj;show sec (fA _ _ _) j=_;rw[<-hk,wQ fN.now ls (by rw[bC,bY,ef,e1,e2];omega) hj]
    refine⟨λj hj hij=>?_,h2,λj hj=>?_⟩
    .obtain⟨b1,b2⟩:=h1 j hj ls;refine⟨by rw[hs j hj,ge];exact b1,?_⟩;show((D.bZ C d i).1.loose.set i false).getD j false=_;rw[uc,ge];exact b2
    .by_cases e:i=j
     .subst e;refine⟨k,Vd,?_⟩;rw[U8 hl];show sec ((D.bZ C d i).1.kD C (D.bZ C d i).2 i).now i=_;rw[hs i ls,U8 rfl,a1,h2]
     .obtain⟨k',b1,b2⟩:=h3 j ls;refine⟨k',b1,?_⟩;show sec ((D.bZ C d i).1.kD C (D.bZ C d i).2 i).now j=_;rw[hs j ls,U9 e];exact b2
   .rw[U9 hl];refine⟨λj hj hij=>h1 j hj ls,h2,λj hj=>?_⟩
    by_cases e:i=j
    .subst e;exact⟨0,ls,by rw[U9 hl];exact a1⟩
    .exact h3 j ls
 exact(key n (ai n)).2.2 j hj
def yy{k:Nat}(fN:d.Ok n)(hk:k<n)(hd:d.down=false)(hl:d.loose.getD k false=false)(s:UV):
  sec (d.ao n k s).1.now k=kz s/\sec (d.ao n k s).1.aR k=sec d.now k:=by
 have h0:d.jb n k=0:=by rw[tW d n k hk];simp[hd]
 unfold D.ao;rw[U8 h0,show((k:Nat):Int).toNat=k by omega];obtain⟨c1,_,c3⟩:=kR (d.dh k s);rw[c1,c3];refine⟨?_,?_⟩
 .show sec (fA d.now k (kz s)) k=_;rw[wQ fN.now hk (j7 s) hk,U8 rfl]
 .show sec (d.gE k).aR k=_;unfold D.gE;rw[U9 (by rw[hl];simp)];show sec (fA d.aR k (sec d.now k)) k=_;rw[wQ fN.aR hk (ev fN.now hk) hk,U8 rfl]
variable{d d':D}{n:Nat}{x ep slot:Int}{aR parts:List Int}
def Jz(d:D):D:={d with down:=false}
def sy(h:d.down=false):Jz d=d:=by unfold Jz;rw[<-h]
def Kept(parts aR:List Int)(j:Nat):Prop:=j<2\/∃x:Nat,((x:Int)∈parts\/(x:Int)∈aR)/\2+4*x<=j/\j<2+4*x+4
structure fD(d:D)(n:Nat)(ep slot:Int)(aR parts:List Int):Prop where
 n2:2<=n
 ro:Rt.gP ep (aR.length:Nat) parts
 sl:slot=0\/slot=1
 rt:sec d.now slot.toNat=Rt.eV ep aR.length (parts.map Int.toNat)
 ot:Rt.fT (sec d.now (1-slot).toNat)->Rt.fi (sec d.now (1-slot).toNat)<ep
 pp:∀(i:Nat) (x:Int),parts[i]?=some x->∃q,0<=q/\q<=ep/\aV (Jz d) n x=(⟨x,q,1,ff (Rt.iN (Rt.iF aR i)) 232⟩,0)
 lo:∀j,j<n->Kept parts aR j->d.loose.getD j false=false
def Twin(d:D)(slot ep:Int):Prop:=(sec d.now (1-slot).toNat).take 8=(sec d.now (1-slot).toNat).drop 56/\Rt.fi (sec d.now (1-slot).toNat)<ep
def YL(h:(aV d n x).2=0):0<=x/\x<cJ n:=by
 unfold aV at h
 by_cases hx:x<0\/(cJ n:Int)<=x
 .rw[U8 hx]at h;exact eq h ms
 .omega
def xi{x:Nat}(hx:x<cJ n):2+4*x+4<=n:=by unfold cJ at hx;omega
def fD.calm(R:fD d n ep slot aR parts)(h:Calm n (Kept parts aR) d d'):fD d' n ep slot aR parts:=by
 have n2:=R.n2;have hs:=R.sl;have e1:=(h slot.toNat ls (.inl ls)).1;have e2:=(h (1-slot).toNat ls (.inl ls)).1;refine⟨R.n2,R.ro,R.sl,e1.trans R.rt,by rw[e2];exact R.ot,λi x hx=>?_,λj hj hk=>(h j hj hk).2 (R.lo j hj hk)⟩;obtain⟨q,q0,q1,q2⟩:=R.pp i x hx;obtain⟨h0,h1⟩:=YL (by rw[q2]);refine⟨q,q0,q1,?_⟩;rw[<-q2]
 have:=pO (d:=Jz d) (d':=Jz d') (n:=n) rfl x.toNat ls (λj a b=>(h j (by have:=xi (show x.toNat<cJ n by omega);omega) (.inr ⟨x.toNat,.inl (by rw[show((x.toNat:Nat):Int)=x by omega];exact ay hx),a,b⟩)).1)
 rwa [show((x.toNat:Nat):Int)=x by omega]at this
def Twin.calm{P:Nat->Prop}(T:Twin d slot ep)(n2:2<=n)(hs:slot=0\/slot=1)(hP:∀j,j<2->P j)(h:Calm n P d d'):Twin d' slot ep:=by
 have e2:=(h (1-slot).toNat ls (hP _ ls)).1;unfold Twin;rw[e2];exact T
def DM{k:Nat}(h1:(k:Int)∉parts)(h2:(k:Int)∉aR)(j:Nat)(a:2+4*k<=j)(b:j<2+4*k+4):¬Kept parts aR j:=by
 rintro(h|⟨x,h,c,e⟩)
 .omega
 .obtain rfl:x=k:=ls
  exact h.elim h1 h2
def C.on(c:C)(d:D):C:={c with d:=d}
def LR{c:C}(g:Good c n)(d0:D)(p:UV)(fN:d0.Ok n):Calm n (Kept c.parts c.aR) d0 ((c.on d0).bA n p).1.d:=by
 by_cases hf:(c.bU n).free=0
 .unfold C.bA;have e2:Fm.cP (c.on d0).m=Fm.cP c.m:=rfl;rw[e2,yI g hf,i9];exact .refl d0
 .obtain⟨k,hk,h0,e⟩:=yH g hf;obtain⟨z1,z2,z3⟩:=Lz h0;have this:Calm n (Kept c.parts c.aR) d0 (bq (c.on d0).d n ((k:Nat):Int) ((c.on d0).ep+1) 2 p).1:=oV fN ((k:Nat):Int) (c.ep+1) 2 p (λj a b=>DM z1 z2 j ls ls);unfold C.bA;have e2:Fm.cP (c.on d0).m=Fm.cP c.m:=rfl;rw[e2,e,i8]
  split
  .exact this
  .exact this
def Qr{c:C}(g:Good c n)(d0:D)(p:UV)(fN:d0.Ok n):Calm n (Kept c.parts c.aR) d0 ((c.on d0).bE n p).1.d:=by
 have:=LR g d0 p fN;unfold C.bE;rw[U9 (show ¬(c.on d0).broken=true by show ¬c.broken=true;rw[g.br];simp)]
 split
 .exact .refl d0
 .split
  .exact .refl d0
  .split
   .exact this
   .exact this
def Ve{c:C}(g:Good c n)(h:Fm.bA c.m x=true):∃k:Nat,x=k/\k<c.m.length/\(k:Int)∉c.parts/\(k:Int)∉c.aR:=by
 unfold Fm.bA Fm.yD at h;simp only[jI,decide_eq_true_eq,beq_iff_eq]at h;obtain⟨⟨h0,h1⟩,h2⟩:=h;refine⟨x.toNat,ls,ls,?_⟩;rw[g.md _ ls]at h2;unfold db at h2
 split at h2
 .omega
 .split at h2
  .split at h2<;>omega
  .exact⟨by assumption,by assumption⟩
def DN{c:C}(g:Good c n)(d0:D)(l:Int)(p:UV)(fN:d0.Ok n):Calm n (Kept c.parts c.aR) d0 ((c.on d0).ao n l p).1.d:=by
 have:=LR g d0 p fN;unfold C.ao;rw[U9 (show ¬(c.on d0).broken=true by show ¬c.broken=true;rw[g.br];simp)]
 split
 .exact .refl d0
 .split
  .exact .refl d0
  .split
   .rename_i hf;obtain⟨k,e,hk,z1,z2⟩:=Ve g hf;show Calm n _ d0 (bq d0 n _ _ _ _).1;exact oV fN _ _ _ _ (λj a b=>by
     have e:((c.on d0).table.getD l.toNat 0).toNat=k:=ls
     rw[e]at a b;exact DM z1 z2 j a b)
   .split
    .exact this
    .exact this
def Qs{c:C}(g:Good c n)(R:fD c.d n c.ep c.slot c.aR c.parts)(p:UV):fD (c.bE n p).1.d n c.ep c.slot c.aR c.parts:=R.calm (Qr g c.d p g.ok)
def JA{c:C}(g:Good c n)(R:fD c.d n c.ep c.slot c.aR c.parts)(l:Int)(p:UV):fD (c.ao n l p).1.d n c.ep c.slot c.aR c.parts:=R.calm (DN g c.d l p g.ok)
def DO(c:C)(n:Nat)(p:UV):(c.bE n p).1.aR=c.aR/\(c.bE n p).1.parts=c.parts/\(c.bE n p).1.ep=c.ep/\(c.bE n p).1.slot=c.slot/\(c.bE n p).1.broken=c.broken:=by
 obtain⟨f1,f2,f3,f4,f5,f6⟩:=gQ c n p;unfold C.bE
 split
 .exact⟨rfl,rfl,rfl,rfl,rfl⟩
 .split
  .exact⟨rfl,rfl,rfl,rfl,rfl⟩
  .split
   .exact⟨rfl,rfl,rfl,rfl,rfl⟩
   .split
    .exact⟨f2,f3,f4,f5,f6⟩
    .exact⟨f2,f3,f4,f5,f6⟩
def xj(c:C)(n:Nat)(l:Int)(p:UV):(c.ao n l p).1.aR=c.aR/\(c.ao n l p).1.parts=c.parts/\(c.ao n l p).1.ep=c.ep/\(c.ao n l p).1.slot=c.slot/\(c.ao n l p).1.broken=c.broken:=by
 obtain⟨f1,f2,f3,f4,f5,f6⟩:=gQ c n p;unfold C.ao
 split
 .exact⟨rfl,rfl,rfl,rfl,rfl⟩
 .split
  .exact⟨rfl,rfl,rfl,rfl,rfl⟩
  .split
   .exact⟨rfl,rfl,rfl,rfl,rfl⟩
   .split
    .exact⟨rfl,rfl,rfl,rfl,rfl⟩
    .split
     .exact⟨f2,f3,f4,f5,f6⟩
     .exact⟨f2,f3,f4,f5,f6⟩
variable{x:Int}{c:C}{n:Nat}
def Qt{m:List Int}(h:∃i,i<m.length/\m.getD i 0=0):Fm.dH m 0<m.length/\m.getD (Fm.dH m 0) 0=0:=by
 obtain⟨i,hi,h0⟩:=h;have dP:Fm.dH m 0<m.length:=by
  unfold Fm.dH;rw[Pf];refine⟨m[i],jR hi,?_⟩;simp[List.getD,aQ hi]at h0;simp[h0]
 refine⟨dP,?_⟩;have:=rN (p:=(· ==(0:Int))) (xs:=m) (w:=dP);simp[List.getD];unfold Fm.dH at dP ⊢;rw[aQ dP];simpa using this
def DP(m:List Int):∀k,k<=(Fm.gY m 0).length->(takeN m k).1.length=m.length/\(takeN m k).2.Nodup/\(∀x∈(takeN m k).2,∃i:Nat,x=i/\i<m.length/\m.getD i 0=0)/\∀i:Nat,i<m.length->(takeN m k).1.getD i 0=if(i:Int)∈(takeN m k).2 then 2 else m.getD i 0
 |0,_=>⟨rfl,qv,by simp[takeN],λi hi=>by simp[takeN]⟩
 |k+1,h=>by
  obtain⟨h1,h2,h3,h4⟩:=DP m k ls;have hl:=pM m k;have hz:∃i,i<(takeN m k).1.length/\(takeN m k).1.getD i 0=0:=by
   by_cases hh:∃i,i<(takeN m k).1.length/\(takeN m k).1.getD i 0=0
   .exact hh
   .have:=wZ (Fm.gY m 0) (takeN m k).2 (kY m 0) (λx hx=>by
     obtain⟨i,rfl,hi,h0⟩:=iz.1 hx
     by_cases hm:(i:Int)∈(takeN m k).2
     .exact hm
     .exact eq ⟨i,by rw[h1];exact hi,by rw[h4 i hi,U9 hm];exact h0⟩ hh)
    omega
  obtain⟨f1,f2⟩:=Qt hz;obtain⟨F,hF⟩:∃F,Fm.dH (takeN m k).1 0=F:=⟨_,rfl⟩;rw[hF]at f1 f2;have e:Fm.cP (takeN m k).1=((takeN m k).1.set F 2,((F:Nat):Int),0):=by unfold Fm.cP;rw[hF,U8 f1]
  have e1:(takeN m (k+1)).1=(takeN m k).1.set F 2:=by show(Fm.cP _).1=_;rw[e]
  have e2:(takeN m (k+1)).2=(takeN m k).2++[((F:Nat):Int)]:=by show _++[(Fm.cP _).2.1]=_;rw[e]
  have hFm:F<m.length:=by rw[<-h1];exact f1
  have hFn:((F:Nat):Int)∉(takeN m k).2:=λhm=>by
   rw[h4 F hFm,U8 hm]at f2;omega
  have hF0:m.getD F 0=0:=by
   rw[h4 F hFm,U9 hFn]at f2;exact f2
  rw[e1,e2];refine⟨by rw[bR];exact h1,?_,λx hx=>?_,λi hi=>?_⟩
  .rw[jJ];refine⟨h2,lw,λa ha b hb e=>?_⟩;rw[aG.1 hb]at e;exact hFn (by rw[<-e];exact ha)
  .rcases aK.1 hx with hx|hx
   .exact h3 x hx
   .exact⟨F,aG.1 hx,hFm,hF0⟩
  .rw[jE _ _ _ _ ls]
   by_cases e:F=i
   .subst e;rw[U8 rfl,U8 (cv _ (aG.2 rfl))]
   .rw[U9 e,h4 i hi];have:((i:Int)∈(takeN m k).2++[((F:Nat):Int)])↔(i:Int)∈(takeN m k).2:=by
     rw[aK,aG];exact⟨λh=>h.elim id (λh=>by omega),.inl⟩
    simp only[this]
def px:∀(L:List Int) (m:List Int),L.Nodup->(∀x∈L,∃i:Nat,x=i/\i<m.length/\m.getD i 0=1)->(cO m L).length=m.length/\∀i:Nat,i<m.length->(cO m L).getD i 0=if(i:Int)∈L then 3 else m.getD i 0
 |[],m,_,_=>⟨rfl,λi hi=>by simp[cO]⟩
 |x::L,m,hn,h=>by
  obtain⟨n1,n2⟩:=iC.1 hn;obtain⟨k,rfl,hk,h1⟩:=h x (ie ..);have e:(Fm.du m ((k:Nat):Int)).1=m.set k 3:=by
   unfold Fm.du;rw[show Fm.yD m ((k:Nat):Int)=true from by unfold Fm.yD;simp;omega,U8 rfl,show((k:Nat):Int).toNat=k by omega,h1,U9 ms,U8 rfl]
  obtain⟨r1,r2⟩:=px L (m.set k 3) n2 (λy hy=>by
   obtain⟨i,rfl,hi,h0⟩:=h y (aH _ hy);exact⟨i,rfl,by rw[bR];exact hi,by rw[jE _ _ _ _ hi,U9 (λe=>n1 (by rw[e];exact hy))];exact h0⟩)
  rw[bR]at r1 r2;show(cO (Fm.du m ((k:Nat):Int)).1 L).length=_/\∀i:Nat,i<m.length->(cO (Fm.du m ((k:Nat):Int)).1 L).getD i 0=_;rw[e];refine⟨r1,λi hi=>?_⟩;rw[r2 i hi,jE _ _ _ _ hi]
  by_cases yb:k=i
  .subst yb;rw[U8 (ie ..),U9 n1,U8 rfl]
  .rw[U9 yb];have:((i:Int)∈((k:Nat):Int)::L)↔(i:Int)∈L:=by
    rw[ax];exact⟨λh=>h.elim (λh=>by omega) id,.inr⟩
   simp only[this]
def yO(t:List Int):∀k i,lR t k<=i->i<k->t.getD i 0<0
 |0,i,_,h=>by omega
 |k+1,i,h,hi=>by
  rw[nV]at h
  split at h
  .by_cases e:i=k
   .subst e;assumption
   .exact yO t k i h ls
  .omega
def LS{t:List Int}(h0:0<=x):x∈t.take (lR t t.length)↔x∈t:=by
 refine⟨iR,λh=>?_⟩;obtain⟨i,hi⟩:=ko h;have hl:=(aW.1 hi).1;have dP:i<lR t t.length:=by
  refine Nat.lt_of_not_le (λhle=>?_);have:=yO t t.length i hle hl;simp only[List.getD,hi,j0]at this;omega
 have:(t.take (lR t t.length))[i]?=some x:=by rw[kr dP];exact hi
 exact ay this
def sA{α:Type}{t:List α}{k i:Nat}{x:α}(h:(t.take k)[i]?=some x):t[i]?=some x:=by
 have hl:=(aW.1 h).1;rw[bY]at hl;rw[kr ls]at h;exact h
def St.pad(b:St)(k:Nat):St:={b with now:=b.now++it k none}
def Vf(c:C)(h0:0<=x):db c.bf x=db c x:=by
 unfold db;show(if x∈c.parts then 1 else if x∈c.aR then(if x∈c.table.take _ then 1 else 3)else if x∈c.table.take _ then 2 else 0:Int)=_;simp only[LS h0]
def G8(g:Good c n):Good c.bf n/\c.bU n=(c.bf.bU n).pad (c.table.length-lR c.table c.table.length):=by
 have hle:=DJ c.table c.table.length;refine⟨⟨g.up,g.arm,g.br,g.ok,g.ml,g.ep,g.sl,λx hx=>g.ti x (iR hx),g.oi,g.pi,λi j x hi hj=>g.tj i j x (sA hi) (sA hj),g.oj,g.pj,λx hx=>⟨λh=>(g.dt x hx).1 (iR h),(g.dt x hx).2⟩,g.pl,λi x hi=>g.sm i x (sA hi),λi hi=>?_,λx hx=>g.rt x (iR hx),g.ro⟩,?_⟩
 .rw[Vf c ls];exact g.md i hi
 .unfold C.bU St.pad;simp only[St.mk.injEq,true_and];refine⟨rfl,?_,rfl,rfl⟩;have e:c.table=c.bf.table++c.table.drop (lR c.table c.table.length):=(mo _ _).symm;have e2:(c.table.drop (lR c.table c.table.length)).map (c.dv n)=it (c.table.length-lR c.table c.table.length) none:=by
   rw[List.eq_replicate_iff];refine⟨lw,λb hb=>?_⟩;obtain⟨x,hx,rfl⟩:=dq.1 hb;obtain⟨i,hi⟩:=ko hx;rw[iu]at hi;have hl:=(aW.1 hi).1;have:=yO c.table c.table.length _ (Jb _ i) hl;simp only[List.getD,hi,j0]at this;unfold C.dv;rw[U8 this]
  have e3:c.table.map (c.dv n)=c.bf.table.map (c.dv n)++(c.table.drop (lR c.table c.table.length)).map (c.dv n):=by
   rw[<-eS,<-e]
  rw[e3,e2];rfl
def part_le(l:List Int)(i:Nat):(Rt.iN (Rt.iF l i)).length<=232:=by
 unfold Rt.iN;rw[Rt.LB,eZ,Rt.sr];omega
def yP:∀{l:List Int} {i j:Nat} {x:Int},l.Nodup->l[i]?=some x->l[j]?=some x->i=j
 |[],i,j,x,_,hi,_=>by simp at hi
 |y::l,0,0,x,_,_,_=>rfl
 |y::l,0,j+1,x,h,hi,hj=>by
  have hj:l[j]?=some x:=by simpa using hj
  have hi:y=x:=by simpa using hi
  subst hi;exact eq (ay hj) (iC.1 h).1
 |y::l,i+1,0,x,h,hi,hj=>by
  have hi:l[i]?=some x:=by simpa using hi
  have hj:y=x:=by simpa using hj
  subst hj;exact eq (ay hi) (iC.1 h).1
 |y::l,i+1,j+1,x,h,hi,hj=>by
  have:=yP (l:=l) (i:=i) (j:=j) (x:=x) (iC.1 h).2 (by simpa using hi) (by simpa using hj);omega
def InP(P:List Int)(j:Nat):Prop:= ∃x:Nat,(x:Int)∈P/\2+4*x<=j/\j<2+4*x+4
def yQ(hd:c.d.down=false)(ha:c.d.aq=0)(fN:c.d.Ok n){P:List Int}(hP:P.Nodup)(hr:∀x∈P,∃k:Nat,x=k/\k<cJ n)(he:0<=c.ep/\c.ep<1099511627776):∀i,i<=P.length->
  (c.gh n P i).2=0/\(c.gh n P i).1.down=false/\(c.gh n P i).1.aq=0/\(c.gh n P i).1.Ok n/\(c.gh n P i).1.calls<=c.d.calls+4*i/\
   (∀(j:Nat) (x:Int),j<i->P[j]?=some x->aV (c.gh n P i).1 n x=(⟨x,c.ep+1,1,ff (Rt.iN (Rt.iF c.table j)) 232⟩,0))/\Calm n (λj=> ¬InP P j) c.d (c.gh n P i).1
 |0,_=>⟨rfl,hd,ha,fN,by show c.d.calls<=_;omega,λj x hj=>by omega,.refl _⟩
 |i+1,hi=>by
  obtain⟨h1,h2,h3,h4,h5,h6,h7⟩:=yQ hd ha fN hP hr he i ls;obtain⟨x,hx⟩:∃x,P[i]?=some x:=⟨_,aQ ls⟩;have hxm:=ay hx;obtain⟨k,rfl,hk⟩:=hr x hxm;have eD:P.getD i 0=((k:Nat):Int):=by simp[List.getD,hx]
  rw[nF,U9 (by rw[h1];decide),eD];obtain⟨w1,w2,w3,w4,w5⟩:=nR h4 h2 h3 k (c.ep+1) 1 (Rt.iN (Rt.iF c.table i)) hk (by rw[qE];omega) (part_le _ _);have hb:=(nC (c.gh n P i).1 n ((k:Nat):Int) (c.ep+1) 1 (Rt.iN (Rt.iF c.table i)) (by rw[h3];omega)).1;refine⟨w1,w2,w3,kQ h4 _ _ _ _,ls,λj y hj hy=>?_,h7.trans (oV h4 _ _ _ _ (λj a b hn=>hn ⟨k,hxm,ls,ls⟩))⟩
  by_cases e:j=i
  .subst e;rw[hx]at hy;injection hy with hy
   subst hy;exact w4
  .obtain⟨k',rfl,hk'⟩:=hr y (ay hy);rw[w5 k' hk' (λe2=>e (by
    subst e2;exact yP hP hy hx))]
   exact h6 j _ ls hy
def fill64{b:UV}(h:b.length=64):kz b=b:=yC b h
def Vg(hd:c.d.down=false)(ha:c.d.aq=0)(fN:c.d.Ok n){P:List Nat}(hP:(Rt.cy P).Nodup)(hr:∀x∈Rt.cy P,∃k:Nat,x=k/\k<cJ n)(he:0<=c.ep/\c.ep<1099511627776)(hn:2<=n)(hs:c.slot=0\/c.slot=1)(h5:P.length<=5):
  (c.bM n P).2=0/\(c.bM n P).1.down=false/\(c.bM n P).1.aq=0/\(c.bM n P).1.Ok n/\(c.bM n P).1.calls<=c.d.calls+4*P.length+3/\
   (∀(j:Nat) (x:Int),(Rt.cy P)[j]?=some x->aV (c.bM n P).1 n x=(⟨x,c.ep+1,1,ff (Rt.iN (Rt.iF c.table j)) 232⟩,0))/\
   (∀x:Nat,x<cJ n->(x:Int)∉Rt.cy P->aV (c.bM n P).1 n x=aV c.d n x)/\
   sec (c.bM n P).1.now c.slot.toNat=sec c.d.now c.slot.toNat/\sec (c.bM n P).1.now (1-c.slot).toNat=Rt.eV (c.ep+1) c.table.length P/\∀j,(c.bM n P).1.loose.getD j false=false:=by
 obtain⟨h1,h2,h3,h4,h6,h7,h8⟩:=yQ hd ha fN hP hr he (Rt.cy P).length (ai _);have eL:(Rt.cy P).length=P.length:=by simp[Rt.cy]
 rw[eL]at h1 h2 h3 h4 h6 h7 h8;obtain⟨d1,rE⟩:∃d1,(c.gh n (Rt.cy P) P.length)=(d1,0):=⟨_,by rw[<-h1]⟩;unfold C.bM;rw[rE]at h1 h2 h3 h4 h6 h7 h8 ⊢;dsimp only at h1 h2 h3 h4 h6 h7 h8 ⊢;obtain⟨s1,s2,s3,s4⟩:=lX h2 h3;have s5:=(ss d1 (by rw[h3];omega)).1;have s6:d1.cX.1.Ok n:=h4.sync;have s7:=qM s1;rw[U9 ms,U9 (by rw[s1];decide)];generalize d1.cX.1=d2 at *;have Ch:(1-c.slot).toNat<n:=ls
 have XR:(1-c.slot:Int)=(((1-c.slot).toNat:Nat):Int):=ls
 rw[XR,show((((1-c.slot).toNat:Nat):Int)).toNat=(1-c.slot).toNat by omega];obtain⟨s,hsd⟩:∃s,s=(1-c.slot).toNat:=⟨_,rfl⟩;rw[<-hsd]at Ch ⊢;have Th:=Rt.nj (c.ep+1) c.table.length P h5;obtain⟨w1,w2,w3⟩:=jk (n:=n) s2 s3 Ch (Rt.eV (c.ep+1) c.table.length P);have w4:=pH s6 s Ch _ w1;have w5:=(jD d2 n s (Rt.eV (c.ep+1) c.table.length P) (by rw[s3];omega)).1;have w6:=s6.write (s:Int) (Rt.eV (c.ep+1) c.table.length P)
 rw[U9 (by rw[w1];decide)];generalize (d2.ao n (s:Int) (Rt.eV (c.ep+1) c.table.length P)).1=d3 at *;obtain⟨v1,v2,v3,v4⟩:=lX w2 w3;have v5:=(ss d3 (by rw[w3];omega)).1;have v6:=w6.sync;have v7:=qM v1;have hpage:∀x:Nat,x<cJ n->aV d3.cX.1 n x=aV d1 n x:=λx hx=>pO (by rw[v2,h2]) x hx (λj a b=>by
  have:=xi hx;rw[v4,w4 j ls,ge,s4])
 refine⟨v1,v2,v3,v6,ls,λj x hx=>?_,λx hx hn=>?_,?_,?_,v7⟩
 .obtain⟨k,rfl,hk⟩:=hr x (ay hx);rw[hpage k hk];exact h7 j _ (by have:=(aW.1 hx).1;omega) hx
 .rw[hpage x hx];exact pO (by rw[h2,hd]) x hx (λj a b=>(h8 j (by have:=xi hx;omega) (λ⟨y,hy,c1,c2⟩=>hn (by
   obtain rfl:y=x:=ls
   exact hy))).1)
 .rw[v4,w4 _ ls,ge,s4];exact(h8 _ ls (λ⟨y,hy,c1,c2⟩=>by omega)).1
 .rw[v4,w4 _ ls,U8 rfl,fill64 Th]
variable{P:List Int}{ep:Int}{k n:Nat}
def G9(h:∀x∈P,0<=x):Rt.cy (P.map Int.toNat)=P:=by
 unfold Rt.cy;rw[iQ];exact(gm (λx hx=>by have:=h x hx;exact Int.toNat_of_nonneg this)).trans (List.map_id _)
def LX(c:C)(n:Nat):∀k,k<=c.table.length->k6 (c.bU n).now k=lR c.table k
 |0,_=>rfl
 |k+1,h=>by
  unfold k6;rw[nV,LX c n k ls];have e:((c.bU n).now[k]?).getD none=c.dv n (c.table.getD k 0):=by
   unfold C.bU;rw[iM];simp only[List.getD];rw[aQ ls];rfl
  rw[e];unfold C.dv
  by_cases hx:c.table.getD k 0<0
  .rw[U8 hx,U8 hx,i8]
  .rw[U9 hx,U9 hx,i9]
def xm(c:C)(n:Nat):(c.bU n).dW=c.bf.table.map (λx=>if x<0 then none else some (aV c.d n x).1.s):=by
 unfold St.dW;have hl:(c.bU n).now.length=c.table.length:=by unfold C.bU;simp
 rw[hl,LX c n _ (ai _)];show((c.table.map (c.dv n)).take _).map _=(c.table.take _).map _;rw[<-mZ,iQ];refine gm (λx _=>?_);simp only[Function.comp,C.dv]
 split<;>rfl
def Hb(h:P.Nodup):Dw P:=λ_ _ _ hi hj _=>yP h hi hj
def yR(h:Dw P)(h0:∀x∈P,0<=x):P.Nodup:=by
 have:=kZ h
 rwa [show ids P=P from yp.2 (λx hx=>by simpa using h0 x hx)]at this
def YM(he:0<=ep/\ep<1099511627776)(hk:k<=512)(hl:P.length=cd k)(hn:P.Nodup)(hr:∀x∈P,0<=x/\x<=1023):Rt.gP (ep+1) (k:Nat) P:=by
 refine⟨ls,ls,ls,ls,by rw[hl,Cg],λi x hx=>?_⟩;obtain⟨h0,h1⟩:=hr x (ay hx);refine⟨h0,h1,λhm=>?_⟩;obtain⟨j,hj⟩:=ko hm;have Jl:=(aW.1 hj).1;rw[bY]at Jl;have:=Hb hn j i x (sA hj) hx h0;omega
def nr{c:C}(g:Good c n)(tl:c.table.length<=512)(hf:cd c.bf.table.length<=(Fm.gY c.m 0).length):
  ∃mT P,takeN c.m (cd c.bf.table.length)=(mT,P)/\mT.length=c.m.length/\P.Nodup/\P.length=cd c.bf.table.length/\(∀x∈P,∃i:Nat,x=i/\i<c.m.length/\i<=1023/\x∉c.parts/\x∉c.aR/\x∉c.table)/\
   (∀i:Nat,i<c.m.length->mT.getD i 0=if(i:Int)∈P then 2 else db c i)/\Rt.cy (P.map Int.toNat)=P/\Rt.gP (c.ep+1) (c.bf.table.length:Nat) P:=by
 obtain⟨h1,h2,h3,h4⟩:=DP c.m _ hf;have hl:=pM c.m (cd c.bf.table.length);have hm:c.m.length<=1024:=by rw[g.ml];unfold cN;omega
 have hb:∀x∈(takeN c.m (cd c.bf.table.length)).2,∃i:Nat,x=i/\i<c.m.length/\i<=1023/\x∉c.parts/\x∉c.aR/\x∉c.table:=λx hx=>by
  obtain⟨i,rfl,hi,h0⟩:=h3 x hx;rw[g.md i hi]at h0;obtain⟨z1,z2,z3⟩:=Lz h0;exact⟨i,rfl,hi,ls,z1,z2,z3⟩
 have h0:∀x∈(takeN c.m (cd c.bf.table.length)).2,0<=x/\x<=1023:=λx hx=>by
  obtain⟨i,rfl,hi,Ti,_⟩:=hb x hx;omega
 have ht:c.bf.table.length<=512:=by
  show(c.table.take _).length<=512;rw[bY];omega
 have vz:=g.ep;exact⟨_,_,rfl,h1,h2,hl,hb,λi hi=>by rw[h4 i hi,g.md i hi],G9 (λx hx=>(h0 x hx).1),YM ls ht hl h2 h0⟩
def nW{d:D}{slot:Int}{aR parts:List Int}(R:fD d n ep slot aR parts):Rt.cy (parts.map Int.toNat)=parts:=G9 (λx hx=>by
 obtain⟨i,hi⟩:=ko hx;exact(R.ro.2.2.2.2.2 i x hi).1)
def uf(hr:Rt.gP ep (k:Nat) P)(hP:Rt.cy (P.map Int.toNat)=P):(Rt.eV ep k (P.map Int.toNat)).take 8=(Rt.eV ep k (P.map Int.toNat)).drop 56/\Rt.fi (Rt.eV ep k (P.map Int.toNat))=ep:=by
 have h5:(P.map Int.toNat).length<=5:=by have:=Rt.jU hr;simpa using this
 exact⟨by rw[Rt.vF,Rt.DE _ _ _ h5],(Rt.DF ep k _ (by rw[hP];exact hr)).1⟩
def C.xo(c:C)(d:D)(mT P:List Int):C:={c.bf with m:=Fm.iV 0 1 (cO mT c.parts),d:=d,aR:=c.bf.table,parts:=P,ep:=c.ep+1,slot:=1-c.slot}
def Am{c:C}(g:Good c n)(hf:(c.bU n).free<cd (c.bU n).dW.length):c.an n=(c.bf,11):=by
 unfold C.an;rw[(lY g).1,U8 (by rw[xm]at hf;simpa using hf)]
def Hc{c:C}(g:Good c n)(R:fD c.d n c.ep c.slot c.aR c.parts)(he:c.ep<1099511627775)(tl:c.table.length<=512){mT:List Int}(hT:takeN c.m (cd c.bf.table.length)=(mT,P))(hf:cd c.bf.table.length<=(Fm.gY c.m 0).length)
 {d':D}(hd:d'=(({c.bf with m:=mT}:C).bM n (P.map Int.toNat)).1):
  (({c.bf with m:=mT}:C).bM n (P.map Int.toNat)).2=0/\Good (c.xo d' mT P) n/\fD d' n (c.ep+1) (1-c.slot) c.bf.table P/\Twin d' (1-c.slot) (c.ep+1)/\d'.calls<=c.d.calls+30/\
   (c.xo d' mT P).bU n={c.bU n with now:=jy (c.bU n).dW,aR:=(c.bU n).dW,ep:=(c.bU n).ep+1}:=by
 obtain⟨mT',P',e,t1,t2,t3,t4,t5,t6,t7⟩:=nr g tl hf;rw[hT]at e;obtain⟨rfl,rfl⟩:mT=mT'/\P=P':=⟨congrArg Prod.fst e,congrArg Prod.snd e⟩;clear e;have vz:=g.ep;have n2:=R.n2;have h5:P.length<=5:=Rt.jU t7;obtain⟨f1,f2,f3,f4,f5,f6,f7,f8,f9,f10⟩:=Vg (c:={c.bf with m:=mT}) (n:=n) (P:=P.map Int.toNat) g.up g.arm g.ok (by rw[t6];exact t2) (λx hx=>by
  rw[t6]at hx;obtain⟨i,e,hi,_⟩:=t4 x hx;exact⟨i,e,j9 g hi⟩) (show 0<=c.ep/\c.ep<1099511627776 by omega) n2 g.sl (by rw[eZ];exact h5)
 rw[<-hd]at f2 f3 f4 f5 f6 f7 f8 f9 f10;rw[t6]at f6 f7;rw[eZ]at f5;refine⟨f1,?_,?_,?_,by have:d'.calls<=c.d.calls+4*P.length+3:=f5;omega,?_⟩
 .have gt:=(G8 g).1;have LY:∀x:Int,x∈c.table->0<=x->aV d' n x=aV c.d n x:=λx hx h0=>by
   have hti:=g.ti x hx;have:=f7 x.toNat (j9 g ls) (λhm=>by
    rw[show((x.toNat:Nat):Int)=x by omega]at hm;obtain⟨_,_,_,_,_,_,h⟩:=t4 x hm;exact h hx)
   rwa [show((x.toNat:Nat):Int)=x by omega]at this
  obtain⟨v1,v2⟩:=px c.parts mT (yR g.pj (λx hx=>(g.pi x hx).1)) (λx hx=>by
   have:=g.pi x hx;refine⟨x.toNat,ls,ls,?_⟩;rw[t5 x.toNat ls,show((x.toNat:Nat):Int)=x by omega,U9 (λhm=>by
    obtain⟨_,_,_,_,h,_⟩:=t4 x hm;exact h hx)]
   unfold db;rw[U8 hx])
  have qs:(c.xo d' mT P).m.length=c.m.length:=by
   show(Fm.iV 0 1 (cO mT c.parts)).length=_;rw[Fm.wU,v1,t1]
  refine⟨f2,f3,g.br,f4,qs.trans g.ml,(by show 1<=c.ep+1/\c.ep+1<1099511627776;omega),(by show 1-c.slot=0\/1-c.slot=1;have:=g.sl;omega),by rw[qs];exact gt.ti,by rw[qs];exact gt.ti,λx hx=>?_,gt.tj,gt.tj,Hb t2,λx hx=>?_,t3,λi x hi _ _=>hi,λi hi=>?_,λx hx h0=>?_,λx hx h0=>?_⟩
  .obtain⟨i,rfl,hi,_⟩:=t4 x hx;rw[qs];omega
  .obtain⟨_,_,_,_,_,_,h⟩:=t4 x hx;exact⟨λhm=>h (iR hm),λhm=>h (iR hm)⟩
  .rw[qs]at hi;show(Fm.iV 0 1 (cO mT c.parts)).getD i 0=_;rw[LP _ _ _ _ ls,v2 i ls,t5 i hi];have hk:db (c.xo d' mT P) i=if(i:Int)∈P then 1 else if(i:Int)∈c.bf.table then 1 else 0:=by
    show(if(i:Int)∈P then 1 else if(i:Int)∈c.bf.table then(if(i:Int)∈c.bf.table then 1 else 3)else if(i:Int)∈c.bf.table then 2 else 0:Int)=_
    by_cases h1:(i:Int)∈P
    .rw[U8 h1,U8 h1]
    .by_cases h2:(i:Int)∈c.bf.table
     .simp only[h1,h2,if_true,if_false]
     .simp only[h1,h2,if_false]
   rw[hk];have hmt:(i:Int)∈c.bf.table↔(i:Int)∈c.table:=LS ls;simp only[hmt]
   by_cases hp:(i:Int)∈c.parts
   .rw[U8 hp,U9 (λhm=>by
     obtain⟨_,_,_,_,h,_⟩:=t4 _ hm;exact h hp),U9 (g.dt _ hp).1]
    rfl
   .rw[U9 hp]
    by_cases hP:(i:Int)∈P
    .rw[U8 hP,U8 hP];rfl
    .rw[U9 hP,U9 hP];unfold db;rw[U9 hp]
     by_cases h1:(i:Int)∈c.aR<;>by_cases h2:(i:Int)∈c.table<;>simp only[h1,h2,if_true,if_false]<;>rfl
  .have hx:=iR hx;obtain⟨q,s,q1,q2,q3,q4⟩:=g.rt x hx h0;exact⟨q,s,q1,by show q<=c.ep+1+1;omega,q3,(LY x hx h0).trans q4⟩
  .have hx:=iR hx;obtain⟨q,s,q1,q2,q3,q4⟩:=g.rt x hx h0;exact⟨q,s,q1,q2,q3,(LY x hx h0).trans q4⟩
 .refine⟨n2,t7,by have:=g.sl;omega,f9,λ_=>?_,λi x hx=>?_,λj _ _=>f10 j⟩
  .rw[show(1-(1-c.slot)).toNat=c.slot.toNat by congr 1;omega];show Rt.fi (sec d'.now c.slot.toNat)<_;have f8':sec d'.now c.slot.toNat=sec c.d.now c.slot.toNat:=f8;rw[f8',R.rt,(uf R.ro (nW R)).2];omega
  .refine⟨c.ep+1,ls,dG _,?_⟩;rw[sy f2];exact f6 i x hx
 .unfold Twin;rw[show(1-(1-c.slot)).toNat=c.slot.toNat by congr 1;omega];have f8':sec d'.now c.slot.toNat=sec c.d.now c.slot.toNat:=f8;rw[f8',R.rt,(uf R.ro (nW R)).2];exact⟨(uf R.ro (nW R)).1,ls⟩
 .obtain⟨v1,_⟩:=px c.parts mT (yR g.pj (λx hx=>(g.pi x hx).1)) (λx hx=>by
   have:=g.pi x hx;refine⟨x.toNat,ls,ls,?_⟩;rw[t5 x.toNat ls,show((x.toNat:Nat):Int)=x by omega,U9 (λhm=>by
    obtain⟨_,_,_,_,h,_⟩:=t4 x hm;exact h hx)]
   unfold db;rw[U8 hx])
  have qs:(c.xo d' mT P).m.length=c.m.length:=by
   show(Fm.iV 0 1 (cO mT c.parts)).length=_;rw[Fm.wU,v1,t1]
  have hs:∀x∈c.bf.table,¬x<0->(aV d' n x).1.s=(aV c.d n x).1.s:=λx hx h0=>by
   have hx:=iR hx;have hti:=g.ti x hx;have:=f7 x.toNat (j9 g ls) (λhm=>by
    rw[show((x.toNat:Nat):Int)=x by omega]at hm;obtain⟨_,_,_,_,_,_,h⟩:=t4 x hm;exact h hx)
   rw[show((x.toNat:Nat):Int)=x by omega]at this;rw[this];rfl
  rw[xm];unfold C.bU;rw[qs];simp only[St.mk.injEq,true_and];refine⟨?_,?_,rfl⟩
  .show c.bf.table.map (C.dv (c.xo d' mT P) n)=jy (c.bf.table.map _);unfold jy;rw[iQ];refine gm (λx hx=>?_);unfold C.dv;simp only[Function.comp]
   by_cases h:x<0
   .rw[U8 h,U8 h];rfl
   .rw[U9 h,U9 h];show some (decide (x∉c.bf.table),(aV d' n x).1.s)=some (false,(aV c.d n x).1.s);rw[hs x hx h];simp[hx]
  .show c.bf.table.map _=c.bf.table.map _;refine gm (λx hx=>?_)
   by_cases h:x<0
   .rw[U8 h,U8 h]
   .rw[U9 h,U9 h];show some (aV d' n x).1.s=_;rw[hs x hx h]
def sC{c:C}(g:Good c n)(R:fD c.d n c.ep c.slot c.aR c.parts)(he:c.ep<1099511627775)(tl:c.table.length<=512)(hf:¬(c.bU n).free<cd (c.bU n).dW.length):
  ∃c',c.an n=(c',0)/\Good c' n/\fD c'.d n c'.ep c'.slot c'.aR c'.parts/\Twin c'.d c'.slot c'.ep/\c'.d.calls<=c.d.calls+30/\c'.bU n={c.bU n with now:=jy (c.bU n).dW,aR:=(c.bU n).dW,ep:=(c.bU n).ep+1}/\c'.table=c.bf.table/\c'.ep=c.ep+1:=by
 have Cc:¬(Fm.gY c.m 0).length<cd c.bf.table.length:=by rw[(lY g).1];rw[xm]at hf;simpa using hf
 obtain⟨mT,P,hT,_⟩:=nr g tl ls;obtain⟨h1,h2,h3,h4,h5,h6⟩:=Hc g R he tl hT ls rfl;refine⟨c.xo _ mT P,?_,h2,h3,h4,h5,h6,rfl,rfl⟩;unfold C.an;rw[U9 Cc,ge,hT];dsimp only;rw[U9 (by rw[h1];decide)];rfl
def sD(b:St):b.pad 0=b:=by unfold St.pad;simp
def pad_pad(b:St)(j k:Nat):(b.pad j).pad k=b.pad (j+k):=by unfold St.pad;simp[cV,List.replicate_append_replicate]
def xq{α:Type}(l:List (Option α))(k i:Nat):((l++it k none)[i]?).getD none=(l[i]?).getD none:=by
 by_cases h:i<l.length
 .rw[bX h]
 .rw[eC ls,fw (l:=l) ls,CF]
  split<;>rfl
def Qu(b:St)(k:Nat)(l:Int):(b.pad k).at l=b.at l:=by
 unfold St.at;show(if 0<=l then((b.now++it k none)[l.toNat]?).getD none else none)=_;rw[xq]
def Vh(b:St)(k:Nat):(b.pad k).fresh=b.fresh:=by
 unfold St.fresh;show(b.now++it k none).countP im=_;rw[Cx,List.countP_replicate];simp[im]
def YN(b:St)(k:Nat):(b.pad k).kept=b.kept:=rfl
def DQ(b:St)(k:Nat):(b.pad k).free=b.free:=by
 unfold St.free;rw[Vh,YN];rfl
def YP(b:St)(k:Nat):(b.pad k).slot=b.slot:=by
 unfold St.slot;show(b.now++it k none).findIdx Option.isNone=_;rw[List.findIdx_append]
 split
 .rfl
 .rename_i h;have h1:b.now.findIdx Option.isNone=b.now.length:=by
   have:=qt (xs:=b.now) (p:=Option.isNone);omega
  cases k with
  |zero=>simp[h1]
  |succ k=>simp[List.replicate_succ,Pe,h1]
def JB{α:Type}(l:List (Option α))(k i:Nat)(u:Option α)(h:i<l.length):(l++it k none).set i u=l.set i u++it k none:=Bq _ _ h
def pad_new(b:St)(k:Nat)(p:UV):∃k',(b.pad k).bE p=((b.bE p).1.pad k',(b.bE p).2):=by
 unfold St.bE;rw[YP,DQ]
 by_cases h1:232<p.length
 .rw[U8 h1,U8 h1];exact⟨k,rfl⟩
 rw[U9 h1,U9 h1]
 by_cases h2:512<=b.slot\/b.free=0
 .rw[U8 h2,U8 h2];exact⟨k,rfl⟩
 rw[U9 h2,U9 h2];have hs:b.slot<=b.now.length:=qt
 by_cases h3:b.slot=b.now.length
 .cases k with
  |zero=>exact⟨0,by rw[sD,sD]⟩
  |succ k=>
   refine⟨k,?_⟩;unfold St.pad;simp only[Prod.mk.injEq,St.mk.injEq,true_and,and_true];unfold qK;rw[U9 (by simp;omega),U8 h3,h3,tG _ _ (ai _),ik,List.replicate_succ];simp
 .refine⟨k,?_⟩;unfold St.pad;simp only[Prod.mk.injEq,St.mk.injEq,true_and,and_true];unfold qK;rw[U9 (by simp;omega),U9 h3,JB _ _ _ _ ls]
def DR{b:St}{l:Int}(h:(b.at l).isSome=true):0<=l/\l.toNat<b.now.length:=by
 unfold St.at at h
 by_cases h0:0<=l
 .rw[U8 h0]at h;refine⟨h0,Nat.lt_of_not_le (λhle=>?_)⟩;rw[fw hle]at h;simp at h
 .rw[U9 h0]at h;simp at h
def Vj(b:St)(k:Nat)(l:Int)(p:UV):(b.pad k).ao l p=((b.ao l p).1.pad k,(b.ao l p).2):=by
 unfold St.ao;rw[Qu,DQ]
 by_cases h1:232<p.length
 .rw[U8 h1,U8 h1]
 rw[U9 h1,U9 h1]
 by_cases h2:¬(b.at l).isSome=true
 .rw[U8 h2,U8 h2]
 rw[U9 h2,U9 h2]
 by_cases h3:im (b.at l)=false/\b.free=0
 .rw[U8 h3,U8 h3]
 rw[U9 h3,U9 h3];unfold St.pad;simp only[Prod.mk.injEq,St.mk.injEq,true_and,and_true];exact JB _ _ _ _ (DR (Decidable.not_not.1 h2)).2
def YR(b:St)(k:Nat)(l:Int):(b.pad k).aF l=((b.aF l).1.pad k,(b.aF l).2):=by
 unfold St.aF;rw[Qu]
 by_cases h2:(b.at l).isSome=true
 .rw[U8 h2,U8 h2];unfold St.pad;simp only[Prod.mk.injEq,St.mk.injEq,true_and,and_true];exact JB _ _ _ _ (DR h2).2
 .rw[U9 h2,U9 h2]
def Qv(l:List vG)(k:Nat):k6 l (k+1)=if((l[k]?).getD none).isSome then k+1 else k6 l k:=rfl
def Vk{α:Type}(f:List (Option (Bool×UV))->α)(l:List vG)(k:Nat):k6 (l++it k none) (l.length+k)=k6 l l.length:=by
 have h1:∀j,j<=l.length->k6 (l++it k none) j=k6 l j:=by
  intro j
  induction j with
  |zero=>intro _;rfl
  |succ j ih=>
   intro hj;unfold k6;rw[xq,ih ls]
 have h2:∀j,k6 (l++it k none) (l.length+j)=k6 (l++it k none) l.length:=by
  intro j
  induction j with
  |zero=>rfl
  |succ j ih=>
   rw[show l.length+(j+1)=(l.length+j)+1 by omega,Qv,xq,fw ls,i8];exact ih
 rw[h2,h1 _ (ai _)]
def L8(b:St)(k:Nat):(b.pad k).dW=b.dW:=by
 unfold St.dW;show((b.now++it k none).take (k6 (b.now++it k none) (b.now++it k none).length)).map _=_;have hl:(b.now++it k (none:vG)).length=b.now.length+k:=lw
 have h2:=Vk (λx=>x) b.now k;rw[hl,h2];have:=LM b.now b.now.length;rw[lz this]
variable{c:C}{n:Nat}
def Vl(l:List vG)(k:Nat):vE l (k+1)=vE l k++if((l[k]?).getD none).isSome then [(k:Int)]else []:=rfl
def pad_pgs(l:List vG)(k:Nat):vE (l++it k none) (l.length+k)=vE l l.length:=by
 have h1:∀j,j<=l.length->vE (l++it k none) j=vE l j:=by
  intro j
  induction j with
  |zero=>intro _;rfl
  |succ j ih=>
   intro hj;unfold vE;rw[xq,ih ls]
 have h2:∀j,vE (l++it k none) (l.length+j)=vE (l++it k none) l.length:=by
  intro j
  induction j with
  |zero=>rfl
  |succ j ih=>
   rw[show l.length+(j+1)=(l.length+j)+1 by omega,Vl,xq,fw ls,ih];simp
 rw[h2,h1 _ (ai _)]
open Go.RowKit
variable{i d n:Nat}{v:By}{w:BY}{rs:List Nat}
section
variable{P:Program}{ops:Array Oper}{Q:Exit->Act->BY->Prop}{md:Region.Mode}{S:BY->Prop}{L:List Nat}
def Qw(P:Program)(md:Region.Mode)(ops:Array Oper)(Q:Exit->Act->BY->Prop)(S:BY->Prop)(L:List Nat):Nat->Array Bool->Act->BY->Prop
 |0,c,a,w=>Region.ready md ops c=[]/\Q .normal a w
 |n+1,c,a,w=>(Region.ready md ops c=[]->Q .normal a w)/\∀i∈Region.ready md ops c,wpOp P ops Q i (λa' w'=>(i∉L->S w->S w')/\Qw P md ops Q S L n (c.setIfInBounds i true) a' w') a w
def Tj:∀(n:Nat) (c:Array Bool) (a:Act) (w:BY),Qw P md ops Q S L n c a w->wpAny P md ops Q n c a w
 |0,_,_,_,h=>h
 |n+1,_,_,_,h=>⟨h.1,λi hi=>wpOp_mono (λa' w' x=>Tj n _ a' w' x.2) (h.2 i hi)⟩
def JC(md:Region.Mode)(ops:Array Oper)(L i:Nat):Bool:=match ops[L]? with|some o=>o.after.any λe=>Region.binds md e && e.on==i|none=>false
def Qx{L:Nat}(h:JC md ops L i=true):∃o e,ops[L]?=some o/\e∈o.after/\Region.binds md e=true/\e.on=i:=by
 unfold JC at h
 cases ho:ops[L]? with
 |none=>rw[ho]at h;cases h
 |some o=>
  rw[ho]at h;rw[Array.any_eq_true']at h;obtain⟨e,he,hb⟩:=h;rw[jI,beq_iff_eq]at hb;exact⟨o,e,rfl,he,hb.1,hb.2⟩
def yS{oi:Oper}(hi:ops[i]?=some oi)(hsel:∀(j:Nat) (o:Oper) cs b,ops[j]?=some o->o.op≠ .select cs b)
 (hQ:∀c a w,Q (.panic c) (a.put oi.dst v) w->Q (.panic c) a w){S2:BY->Prop}(hL:(∀w,S2 w)\/(S2=S/\∀k∈L,JC md ops k i=true)):∀(n:Nat) (c:Array Bool) (a:Act) (w:BY),
  (∀j oj,ops[j]?=some oj->j≠i->c.getD j true=false->(∀e∈oj.after,Region.binds md e=true->e.on≠i)->oi.apart ops oj=true)->
  i∈Region.ready md ops c->YieldsIf P ops S2 oi v a->S2 w->Qw P md ops Q S L n (c.setIfInBounds i true) (a.put oi.dst v) w->Qw P md ops Q S L (n+1) c a w
 |0,c,a,w,_,hr,hy,hS,H=>by
  refine⟨λh=>(by rw[h]at hr;cases hr),λj hj=>?_⟩
  by_cases Jl:j=i
  .subst Jl;exact hy.wpOp hi hS ⟨λ_ h=>h,H⟩
  .have:=ready_mono hj Jl;rw[H.1]at this
   cases this
 |n+1,c,a,w,hfree,hr,hy,hS,H=>by
  refine⟨λh=>(by rw[h]at hr;cases hr),λj hj=>?_⟩
  by_cases Jl:j=i
  .subst Jl;exact hy.wpOp hi hS ⟨λ_ h=>h,H⟩
  .obtain⟨hun,oj,hoj,py⟩:=mem_ready.1 hj;have Vn:∀e∈oj.after,Region.binds md e=true->e.on≠i:=λe he hb heq=>by
    have h1:=py e he hb;have h0:=(mem_ready.1 hr).1;rw[heq]at h1
    rcases fo i c.size with h'|h'
    .simp[h']at h0 h1;rw[h0]at h1;cases h1
    .simp[Xr h']at h1
   refine wpOp_mono (λa' w' x=>?_) (wpOp_putIf hoj (hfree j oj hoj Jl hun Vn) (λcs b=>hsel i oi cs b hi) (λcs b=>hsel j oj cs b hoj) hQ hy (H.2 j (ready_mono hj Jl)));obtain⟨x1,x2,x3⟩:=x;have h2:S2 w':=by
    rcases hL with h|⟨rfl,h⟩
    .exact h w'
    .refine x2 (λhm=>?_) hS;obtain⟨o,x,x1,x2,x3,x4⟩:=Qx (h j hm);rw[hoj]at x1;injection x1 with x1
     subst x1;exact Vn x x2 x3 x4
   refine⟨x2,yS hi hsel hQ hL n _ a' w' (λk ok hk hki hu Ll=>hfree k ok hk hki ?_ Ll) (ready_mono hr (Ne.symm Jl)) x1 h2 ?_⟩
   .by_cases hjk:j=k
    .subst hjk;exact hun
    .rw[getD_set_ne true hjk]at hu;exact hu
   .rw[Array.setIfInBounds_comm _ _ Jl];exact x3
def nX{l:List (Nat×Nat)}{x1 x2 x3 x4 x5}{c:Array Bool}{a a':Act}(h:Xb l (Qw P md ops Q S L n (c.setIfInBounds i true) a' w))
 (hi:ops[i]?=some ⟨some d,x1,x2,x3,x4,x5⟩:=by rfl)
 (hb:(Region.noSelect ops && (Region.free md ops c i && ((Region.ready md ops c).contains i && (Region.wanted ⟨some d,x1,x2,x3,x4,x5⟩ (yielded ops a.tmps) && L.all λk=>JC md ops k i))))=true:=by kernel_rfl)
 (hQ:∀c a w,Q (.panic c) (a.put (some d) v) w->Q (.panic c) a w:=by exact λ_ _ _ h=>h)(hS:S w:=by assumption)
 (y:∀w,S w->(execOp a.eval ⟨some d,x1,x2,x3,x4,x5⟩).run P w=.ok (.value v) w:=by intro w hS;(try dsimp only at hS);go_simp;try with_reducible rfl)
 (ha:a.put (some d) v=a':=by simp only[Act.put,pa,pb,pc];exact rfl):Xb ((i,d)::l) (Qw P md ops Q S L (n+1) c a w):=by
 subst ha;simp only[jI]at hb;obtain⟨b1,b2,b3,b4,b5⟩:=hb;exact yS hi (Region.noSelect_spec b1) hQ (.inr ⟨rfl,λk hk=>rL.1 b5 k hk⟩) n c a w (Region.free_spec hi b2) (by simpa using b3) (.inl ⟨b4,y⟩) hS h
def mH{l:List (Nat×Nat)}{x1 x2 x3 x4 x5}{c:Array Bool}{a a':Act}(h:Xb l (Qw P md ops Q S L n (c.setIfInBounds i true) a' w))
 (hi:ops[i]?=some ⟨some d,x1,x2,x3,x4,x5⟩:=by rfl)
 (hb:(Region.noSelect ops && (Region.free md ops c i && ((Region.ready md ops c).contains i && Region.wanted ⟨some d,x1,x2,x3,x4,x5⟩ (yielded ops a.tmps))))=true:=by kernel_rfl)
 (hQ:∀c a w,Q (.panic c) (a.put (some d) v) w->Q (.panic c) a w:=by exact λ_ _ _ h=>h)
 (y:∀w,(execOp a.eval ⟨some d,x1,x2,x3,x4,x5⟩).run P w=.ok (.value v) w:=by intro w;go_simp;try with_reducible rfl)
 (ha:a.put (some d) v=a':=by simp only[Act.put,pa,pb,pc];exact rfl):Xb ((i,d)::l) (Qw P md ops Q S L (n+1) c a w):=by
 subst ha;simp only[jI]at hb;obtain⟨b1,b2,b3,b4⟩:=hb;exact yS (S2:=λ_=>True) hi (Region.noSelect_spec b1) hQ (.inl λ_=>trivial) n c a w (Region.free_spec hi b2) (by simpa using b3) (.inl ⟨b4,λw _=>y w⟩) trivial h
def lH(P:Program)(md:Region.Mode)(ops:Array Oper)(Q:Exit->Act->BY->Prop)(S:BY->Prop)(L:List Nat)(n:Nat)(c:Array Bool)(a:Act)(w:BY)(rs:List Nat):Prop:=
 ∀i∈rs,wpOp P ops Q i (λa' w'=>(i∉L->S w->S w')/\Qw P md ops Q S L n (c.setIfInBounds i true) a' w') a w
def lH.nil{c:Array Bool}{a:Act} :lH P md ops Q S L n c a w []:=λ_ h=>by cases h
def lH.cons{c:Array Bool}{a:Act}{o:Oper} 
 (h:∀K':Act->BY->Prop,Shut (∀a w,(i∉L->S w)->((i∉L->S w)->Qw P md ops Q S L n (c.setIfInBounds i true) a w)->K' a w)->if Region.wanted o (yielded ops a.tmps)=true then Oper.wp P o a w K' Q else K' (a.put o.dst undef) w)
 (hs:lH P md ops Q S L n c a w rs)(ho:ops[i]?=some o:=by rfl):lH P md ops Q S L n c a w (i::rs):=λj hj=>by
 rcases ax.1 hj with rfl|hj
 .exact wpOp_step ho (λK' hK=>h K' (λa w hS hW=>hK a w ⟨λhn _=>hS hn,hW hS⟩))
 .exact hs j hj
def yT{c:Array Bool}{a:Act}(hr:Region.ready md ops c=rs)(fy:rs≠[])(h:lH P md ops Q S L n c a w rs):Qw P md ops Q S L (n+1) c a w:=⟨λh0=>eq (hr▸h0) fy,hr▸h⟩
def iq{c:Array Bool}{a:Act}(i:Nat){o:Oper}
 (h:∀K':Act->BY->Prop,Shut (∀a w,(i∉L->S w)->((i∉L->S w)->Qw P md ops Q S L n (c.setIfInBounds i true) a w)->K' a w)->if Region.wanted o (yielded ops a.tmps)=true then Oper.wp P o a w K' Q else K' (a.put o.dst undef) w)
 (hr:Region.ready md ops c=[i]:=by kernel_rfl)(ho:ops[i]?=some o:=by rfl):Qw P md ops Q S L (n+1) c a w:=yT hr (by simp) (lH.cons h lH.nil ho)
def DS{c:Array Bool}{a:Act}(hr:Region.ready md ops c=[])(h:Q .normal a w):∀n,Qw P md ops Q S L n c a w
 |0=>⟨hr,h⟩
 |_+1=>⟨λ_=>h,by rw[hr];simp⟩
def vH{id:Nat}{a:Act}(L:List Nat)(hm:P.follows .mixedOrders=true)(hS:S w.drew)
 (h:S w.drew->Qw P .any ops Q S L ops.size (Array.replicate ops.size false) a w.drew):(Code.region id ops true).wp P Q a w:=wp_region_any hm (Tj _ _ _ _ (h hS))
end
end Sh
end Go.Proofs.YtmonobkginiajaaGreat
