/- packed. -/
import Derived.Deep.Cut
import Derived.Deep.CutRange
import Derived.Test.YtmonobkginiajaaGreatBs4
set_option linter.all false
set_option maxRecDepth 100000
set_option maxHeartbeats 8000000
namespace Go.Proofs.YtmonobkginiajaaGreat
open Go.Proofs.Tryz
namespace Sh
open Go.RowKit Pk Dk Pg
attribute [local go_sem ↓] Go.wp_at_zero Go.wp_at_succ
variable{w:World}{x:X}{n m cc:Nat}{A:Option Addr}
def C.gE(c:C)(n:Nat)(parts:List Int):Nat->D×Int
 |0=>(c.d,0)
 |i+1=>if(c.gE n parts i).2≠0 then c.gE n parts i else bm (c.gE n parts i).1 n (parts.getD i 0) (c.ep+1) 1 (Rt.jb (Rt.ie c.table i))
def C.bH(c:C)(n:Nat)(parts:List Nat):D×Int:=
 if(c.gE n (Rt.dv parts) parts.length).2≠0 then c.gE n (Rt.dv parts) parts.length
 else if(c.gE n (Rt.dv parts) parts.length).1.eh.2≠0 then(c.gE n (Rt.dv parts) parts.length).1.eh
 else if((c.gE n (Rt.dv parts) parts.length).1.eh.1.aA n (1-c.slot) (Rt.eV (c.ep+1) c.table.length parts)).2≠0 then(c.gE n (Rt.dv parts) parts.length).1.eh.1.aA n (1-c.slot) (Rt.eV (c.ep+1) c.table.length parts)
 else((c.gE n (Rt.dv parts) parts.length).1.eh.1.aA n (1-c.slot) (Rt.eV (c.ep+1) c.table.length parts)).1.eh
theorem NW(c:C)(n:Nat)(parts:List Int)(h:c.d.bn<=9223372036854775807):∀i,(c.gE n parts i).1.calls<=c.d.calls+4*i/\(c.gE n parts i).1.bn<=9223372036854775807
 |0=>⟨by show c.d.calls<=_;omega,h⟩
 |i+1=>by
  have ih:=NW c n parts h i;unfold C.gE
  split
  .exact⟨by omega,ih.2⟩
  .have:=qS (c.gE n parts i).1 n (parts.getD i 0) (c.ep+1) 1 (Rt.jb (Rt.ie c.table i)) ih.2;exact⟨by omega,this.2⟩
theorem vG(c:C)(n:Nat)(parts:List Int)(i:Nat):c.gE n parts (i+1)=if(c.gE n parts i).2≠0 then c.gE n parts i else bm (c.gE n parts i).1 n (parts.getD i 0) (c.ep+1) 1 (Rt.jb (Rt.ie c.table i)):=rfl
theorem CT(c:C)(n:Nat)(parts:List Int)(i:Nat)(h:(c.gE n parts i).2≠0):∀k,c.gE n parts (i+k)=c.gE n parts i
 |0=>rfl
 |k+1=>by
  have ih:=CT c n parts i h k;rw[show i+(k+1)=(i+k)+1 by omega,vG,ih,if_pos h]
structure nH(w0 w:World)(x:X)(n:Nat)(c:C)(d:D)(v:Value)(parts:List Int):Prop where
 at_:At w x n {c with d:=d}
 on:ag x.L.fp w0 w
 bx:aF w w0.heap.size 61 #[sp x.b]
 bo:aF w (w0.heap.size+1) 31 #[.int .i64 0]
 ps:Sl w 3 v parts.length (cZ parts)
 nf:∀g∈cf v,g∉x.L.fp
 lt2:∀g∈x.fp,g<w0.heap.size
section
variable{w0 w w':World}{x:X}{n:Nat}{c:C}{d:D}{v:Value}{parts:List Int}
theorem nH.lt(h:nH w0 w x n c d v parts):∀g∈x.L.fp,g<w0.heap.size:=λg hg=>h.lt2 g (GU x g hg)
theorem nH.below(h:nH w0 w x n c d v parts)(hb:Below w.heap.size w w'):nH w0 w' x n c d v parts:=
 ⟨h.at_.below hb,h.on.trans (.ai hb),h.bx.below hb h.bx.lt,h.bo.below hb h.bo.lt,h.ps.below hb,h.nf,h.lt2⟩
theorem nH.step{d':D}(h:nH w0 w x n c d v parts)(A:At w' x n {c with d:=d'})(o:ag x.L.fp w w'):nH w0 w' x n c d' v parts:=
 ⟨A,h.on.trans o,h.bx.only o (λhg=>by have:=h.lt _ hg;omega),h.bo.only o (λhg=>by have:=h.lt _ hg;omega),h.ps.only o (λg hg=>h.nf g hg),h.nf,h.lt2⟩
theorem nH.o(h:nH w0 w x n c d v parts)(u:Value):At (w.setCell ⟨w0.heap.size+1,0,none⟩ u) x n {c with d:=d}/\ag x.L.fp w0 (w.setCell ⟨w0.heap.size+1,0,none⟩ u)/\(w.setCell ⟨w0.heap.size+1,0,none⟩ u).cell? ⟨w0.heap.size+1,0,none⟩=some u:=
 ⟨h.at_.only ((ag.refl [w0.heap.size+1] w).setCell (p:=⟨w0.heap.size+1,0,none⟩) (by simp) u) (λg hg hm=>by have:=h.lt2 g hg;simp at hm;omega),h.on.setCell (λdP=>by dsimp only at dP;omega) u,(h.bo.bU 0 u).ab rfl⟩
theorem nH.part(h:nH w0 w x n c d v parts)(i:Nat)(hi:i<parts.length):∃g cp,v=.slice (some ⟨g,0,none⟩) parts.length cp/\w.cell? ⟨g,i,none⟩=some (.int .i64 (parts.getD i 0)):=by
 obtain⟨g,cp,rest,hv,B,_,_⟩:=h.ps.form (by omega);refine⟨g,cp,hv,B.ab ?_⟩;rw[dh,bE (by simpa using hi),pP _ _ hi]
end
theorem zH(d:D)(h:d.bn<=9223372036854775807):d.eh.1.calls<=d.calls+1/\d.eh.1.bn<=9223372036854775807:=by
 have:=vv d h;unfold D.eh
 split
 .exact⟨by show d.calls<=_;omega,h⟩
 .split
  .exact⟨by show d.cF.1.calls<=_;omega,this.2⟩
  .exact⟨by omega,this.2⟩
theorem rput_of{w0:World}{c:C}{d:D}{parts:List Nat}(h:nH w0 w x n c d (.slice A m cc) (Rt.dv parts))(uR:(Rt.dv parts).length=m)(hmc:m<=cc)(hr:Rt.iC (c.ep+1) (c.table.length:Nat) (Rt.dv parts)):
  Calls prog 102 #[Rt.CO (c.ep+1) (c.table.length:Nat) A m cc] w λe w'=>e=.returned (.tuple #[.string ⟨(Rt.eV (c.ep+1) c.table.length parts).toArray⟩,.int .i64 0])/\Below w.heap.size w w':=by
 refine Rt.GR (c.ep+1) c.table.length A m cc parts ⟨uR,λk y hy=>?_⟩ hmc hr;have hk:k<(Rt.dv parts).length:=(aM.1 hy).1;obtain⟨g,cp,hv,ck⟩:=h.part k hk;rw[uR]at hv;injection hv with e1 e2 e3
 refine⟨_,e1,?_⟩;rw[show(⟨g,0,none⟩:Addr).add k=⟨g,k,none⟩from by unfold Addr.add;split<;>simp_all,ck]
 congr 2
 simp[List.getD,hy]
theorem pV{P:Program}{fn:Func}{t t':Array Value}{R:Ending->World->Prop}(h:∀w,(results fn t').run P w=(results fn t).run P w):∀(ds:List Deferred) (u:FrameMode) (w:World),Leaves P fn t' R ds u w->Leaves P fn t R ds u w
 |[],.returning,w,⟨v,h1,h2⟩=>⟨v,by rw[<-h w];exact h1,h2⟩
 |[],.panicking _,_,h2=>h2
 |[],.run,_,h2=>h2
 |d::ds,u,w,⟨h1,fv,cap,f,args,h2,h3,h4⟩=>⟨h1,fv,cap,f,args,h2,h3,h4.mono λe u' w' hh=>by
   cases e with
   |returned v=>exact pV h ds (settle u') w' hh
   |panicked c=>exact pV h ds (raised u' c) w' hh
   |outgrown=>exact hh⟩
theorem cL(d:Nat)(hd:d≠4){R:Ending->World->Prop}{c:List PanicEntry}{a:Act}{v:Value}(h:bodyPostD prog Tryz.f152 R (.panic c) (a.put (some d) v) w):bodyPostD prog Tryz.f152 R (.panic c) a w:=by
 refine pV (λw=>?_) _ _ _ h;rw[dJ rfl,dJ rfl];simp only[Act.put];have:(a.tmps.setIfInBounds d v).getD 4 undef=a.tmps.getD 4 undef:=by
  rw[Si,Si,Array.getElem?_setIfInBounds_ne hd]
 rw[this]
theorem yA{c:C}(h:At w x n c)(parts:List Nat)(S:Sl w 3 (.slice A m cc) m (cZ (Rt.dv parts)))(hmc:m<=cc)(nf:∀g∈cf (.slice A m cc),g∉x.fp)
 (hr:Rt.iC (c.ep+1) (c.table.length:Nat) (Rt.dv parts))(hb:∀y∈c.table,y<=1023)(BH:c.slot=0\/c.slot=1)(hc:c.d.calls<=3999999999999999900)(ha:c.d.bn<=9223372036854775807):
  Calls prog 152 #[sp x.b,.slice A m cc] w λe w'=>e=.returned (.int .i64 (c.bH n parts).2)/\At w' x n {c with d:=(c.bH n parts).1}/\ag x.L.fp w w':=by
 have hmf:∀(fn:Fn) (first cap:Array Value) (w:World),(Instr.makeFunc fn first cap).run prog w=.ok (.func fn first cap) w:=λ_ _ _ _=>rfl;have uR:(Rt.dv parts).length=m:=by have:=S.1;simpa using this
 have hpl2:parts.length=m:=by rw[<-uR];simp[Rt.dv]
 have Uh:m<=5:=by have:=Rt.kF hr;omega
 have tl:=h.tl;have Gn:1<=c.ep+1/\c.ep+1<=1099511627776:=⟨hr.1,hr.2.1⟩;have hneed:(m:Int)=Rt.mV (c.table.length:Nat):=by have:=hr.2.2.2.2.1;rw[uR]at this;exact this
 obtain⟨R,hR⟩:∃R,c.bH n parts=R:=⟨_,rfl⟩;rw[hR];unfold C.bH at hR;rw[hpl2]at hR;have HR:=xh hR;have U0:=ae (Below.refl w.heap.size w) (.cells #[sp x.b] 61);have U1:=aC U0 (ae (Below.refl (w.alloc (.cells #[sp x.b] 61)).heap.size _) (.cells #[.int .i64 0] 31));have L0:=xh (show nH w ((w.alloc (.cells #[sp x.b] 61)).alloc (.cells #[.int .i64 0] 31)) x n c c.d (.slice A m cc) (Rt.dv parts)from
  ⟨h.below U1,.ai U1,(aF.new w _ _).alloc _,by have:=aF.new (w.alloc (.cells #[sp x.b] 61)) 31 #[.int .i64 0];rw[World.size_alloc]at this;exact this,by rw[uR];exact S.below U1,λg hg hF=>nf g hg (GU x g hF),λg hg=>h.lt g hg⟩)
 have hlb:=xh (λi=>NW c n (Rt.dv parts) ha i);clear hR U0 U1 S nf h;unfold sp at *
 go_enter_defers func152,ntmps152
 go_wp2_with fail
 go_loopw [14] (λiv wr=> ∃i:Nat,i<=m/\iv=.int .i64 i/\Hid ((c.gE n (Rt.dv parts) i).2=0)/\Hid (nH w wr x n c (c.gE n (Rt.dv parts) i).1 (.slice A m cc) (Rt.dv parts))) (λiv _=>m-(intOf iv).toNat)
 case atStart=>exact⟨0,bf _,rfl,xh rfl,L0⟩
 case round=>
  obtain⟨i,hi,rfl,HZ,HL⟩:=hrel;have bb:=hlb.o i
  by_cases h':i<m
  .obtain⟨g,cp,hv,ck⟩:=HL.o.part i (by omega);rw[uR]at hv;injection hv with e1 e2 e3
   subst e1 e3;clear e2;have hiI:(i:Int)<(m:Int):=by omega
   have Ud:116*i<c.table.length:=by unfold Rt.mV at hneed;omega
   have hsc:=vG c n (Rt.dv parts) i;rw[if_neg (by rw[HZ.o];simp)]at hsc;have hid:(Rt.dv parts).getD i 0<=9223372036854775807:=by
    have hm:i<(Rt.dv parts).length:=by omega
    have:=(hr.2.2.2.2.2 i _ (aG hm)).2.1;simp only[List.getD,aG hm,iM];omega
   have K2:=xh (λ(W:World) (hW:nH w W x n c (c.gE n (Rt.dv parts) i).1 (.slice (some ⟨g,0,none⟩) m cc) (Rt.dv parts))=>Ug hW.at_ (hW.bx.ab (i:=0) rfl) i Ud hb);have KP:=xh (λ(W:World) (hW:At W x n {c with d:=(c.gE n (Rt.dv parts) i).1})=>iO hW ((Rt.dv parts).getD i 0) 1 ⟨(Rt.jb (Rt.ie c.table i)).toArray⟩ hid (by show 0<=c.ep/\c.ep<=1099511627776;omega) (by show(c.gE n (Rt.dv parts) i).1.calls<=3999999999999999990;omega) bb.2)
   rw[show({c with d:=(c.gE n (Rt.dv parts) i).1}:C).table=c.table from rfl]at K2;rw[show({c with d:=(c.gE n (Rt.dv parts) i).1}:C).d=(c.gE n (Rt.dv parts) i).1 from rfl,show({c with d:=(c.gE n (Rt.dv parts) i).1}:C).ep=c.ep from rfl,show(⟨(Rt.jb (Rt.ie c.table i)).toArray⟩:ByteArray).data.toList=Rt.jb (Rt.ie c.table i)from rfl,<-hsc]at KP;generalize (⟨(Rt.jb (Rt.ie c.table i)).toArray⟩:ByteArray)=PB at *
   obtain⟨er,vx⟩:∃er,(c.gE n (Rt.dv parts) (i+1)).2=er:=⟨_,rfl⟩;rw[vx]at KP;have HS:=xh vx;clear hsc vx bb;unfold sp at *;have hdc:(0:Int)<=(i:Int):=by omega
   generalize (Rt.dv parts).getD i 0=pid at *;go_wp2_with fail;have LD:=xh (HL.o.below ((Below.refl _ _).drew));have bD:=LD.o.bx.ab (i:=0) rfl;refine wp_region_held_drew (S:=λW'=>W'.cell? ⟨w.heap.size,0,none⟩=some (.pointer (some ⟨x.b,0,none⟩))) (by kernel_rfl) (bD) (λau=>?_);refine jA 0 19 (λ_ _ _ h=>cL 19 (by decide) h) ?_;refine jA 1 20 (λ_ _ _ h=>cL 20 (by decide) h) ?_;refine jA 2 21 (λ_ _ _ h=>cL 21 (by decide) h) ?_
   refine jA 3 22 (λ_ _ _ h=>cL 22 (by decide) h) ?_;refine cQ 4 23 λK hK=>?_;go_simp
   go_at_call 197
   refine(K2.o _ LD.o).mono ?_;rintro e w2 ⟨rfl,dn⟩;have L2:=xh (LD.o.below dn);have b2:=L2.o.bx.ab (i:=0) rfl;clear dn;go_simp;refine bz hK (b2) (λau=>?_);refine cQ 5 24 λK hK=>?_;go_simp
   go_at_call 193
   refine(KP.o _ L2.o.at_).mono ?_;rintro e w3 ⟨rfl,A3,o3⟩;have L3:=xh (L2.o.step A3 o3);have b3:=L3.o.bx.ab (i:=0) rfl;clear A3 o3;go_simp;refine bz hK (b3) (λau=>?_);refine cQ 6 25 λK hK=>?_;go_simp
   go_at_call 199
   by_cases he:er=0
   rotate_left
   .refine(ue er he _).mono ?_;rintro e w4 ⟨rfl,rfl⟩;dsimp only;have LZ:=L3;refine leaves_cons (f:=196) (args:= #[.pointer (some ⟨w.heap.size+1,0,none⟩)]) (by simp) (by simp[go_sem]) ?_;refine(ju ⟨w.heap.size+1,0,none⟩ 0 er [] _ (LZ.o.bo.ab (i:=0) rfl) (LZ.o.bo.frozen 0 (by simp))).mono ?_;rintro e u' Pm ⟨rfl,rfl,rfl⟩;obtain⟨y1,y2,y3⟩:=LZ.o.o (.int .i64 er);refine⟨.int .i64 er,?_,?_⟩
    .rw[dJ rfl];clear y1 y2;go_simp
    .have vH:=HR.o;rw[show m=(i+1)+(m-(i+1)) by omega,CT c n _ (i+1) (by rw[HS.o];exact he),if_pos (by rw[HS.o];exact he)]at vH;subst vH;exact⟨by rw[HS.o],y1,y2⟩
   subst he;refine(yG _).mono ?_;rintro e w4 ⟨rfl,rfl⟩;go_simp;refine bz hK (b3) (λau=>?_);refine wpAnyH_done (by kernel_rfl) ?_ _;go_wp2_with fail;go_roundw
   case rel=>exact⟨i+1,by omega,by go_num,HS,L3⟩
   case measure=>simp[intOf];omega
  .obtain rfl:i=m:=by omega
   have vH:=HR.o;rw[if_neg (by rw[HZ.o];simp)]at vH;obtain⟨TA,tc,xd,_⟩:=HL.o.at_.ht.val;have xd:x.tv=.slice TA c.table.length tc:=xd;obtain⟨d1,uS⟩:∃d1,(c.gE n (Rt.dv parts) i).1=d1:=⟨_,rfl⟩;rw[uS]at HL vH bb;have KS1:=xh (λ(W:World) (hW:nH w W x n c d1 (.slice A i cc) (Rt.dv parts))=>zh hW.at_.hd (by show d1.calls<=_;omega) bb.2);have KI:=xh (λ(W:World) (d:D) (hW:nH w W x n c d (.slice A i cc) (Rt.dv parts))=>rput_of hW uR hmc hr)
   have e1:IntKind.i64.wrap (c.ep+1)=c.ep+1:=IntWalk.i64_in _ (by omega);have e2:IntKind.i64.wrap (1-c.slot)=1-c.slot:=IntWalk.i64_in _ (by omega);have b2:=zH d1 bb.2;rw[show({c with d:=d1}:C).d=d1 from rfl]at KS1;have JC:d1.calls<=3999999999999999930:=by omega
   clear uS hlb bb HZ;generalize d1.eh=s1 at *;obtain⟨sd,se⟩:=s1;dsimp only at KS1 vH b2;have f0:=HL.o.bx.ab (i:=0) rfl;have g0:=HL.o.at_.f0;unfold sp dp at *;go_wp2_with fail;refine(KS1.o _ HL.o).mono ?_;rintro e v1 ⟨rfl,D1,o1⟩;have L1:=xh (HL.o.step (HL.o.at_.disk D1 o1) o1);clear D1 o1 f0 g0;go_wp2_with fail
   by_cases hse:se=0
   rotate_left
   .skip
    refine(ue se hse _).mono ?_;rintro e vm ⟨rfl,rfl⟩;dsimp only;have LZ:=L1;rw[if_pos (by exact hse)]at vH;refine leaves_cons (f:=196) (args:= #[.pointer (some ⟨w.heap.size+1,0,none⟩)]) (by simp) (by simp[go_sem]) ?_;refine(ju ⟨w.heap.size+1,0,none⟩ 0 se [] _ (LZ.o.bo.ab (i:=0) rfl) (LZ.o.bo.frozen 0 (by simp))).mono ?_;rintro e u' Pm ⟨rfl,rfl,rfl⟩;obtain⟨y1,y2,y3⟩:=LZ.o.o (.int .i64 se);refine⟨.int .i64 se,?_,?_⟩
    .rw[dJ rfl];clear y1 y2;go_simp
    .subst vH;exact⟨rfl,y1,y2⟩
   subst hse;rw[if_neg (by simp)]at vH;have KW:=xh (λ(W:World) (hW:nH w W x n c sd (.slice A i cc) (Rt.dv parts))=>kz hW.at_.hd (1-c.slot) ⟨(Rt.eV (c.ep+1) c.table.length parts).toArray⟩ (by show sd.calls<=_;omega) b2.2);rw[show({c with d:=sd}:C).d=sd from rfl,show(⟨(Rt.eV (c.ep+1) c.table.length parts).toArray⟩:ByteArray).data.toList=Rt.eV (c.ep+1) c.table.length parts from rfl]at KW
   have b3:=iR sd n (1-c.slot) (Rt.eV (c.ep+1) c.table.length parts) b2.2;generalize sd.aA n (1-c.slot) (Rt.eV (c.ep+1) c.table.length parts)=s2 at *;generalize (⟨(Rt.eV (c.ep+1) c.table.length parts).toArray⟩:ByteArray)=RB at *;obtain⟨wd,we⟩:=s2;dsimp only at KW vH b3;refine(yG _).mono ?_;rintro e vm ⟨rfl,rfl⟩;have LV:=xh (L1.o.below ((Below.refl _ _).drew));have q0:=LV.o.bx.ab (i:=0) rfl;have q5:=LV.o.at_.f5;have q2:=LV.o.at_.f2;rw[xd]at q2
   go_wp2_with fail;refine wp_region_held_drew (S:=λW'=>W'.cell? ⟨w.heap.size,0,none⟩=some (.pointer (some ⟨x.b,0,none⟩))/\W'.cell? ⟨x.b,5,none⟩=some (.int .i64 c.ep)/\W'.cell? ⟨x.b,2,none⟩=some (.slice TA c.table.length tc)) (by kernel_rfl) (⟨q0,q5,q2⟩) (λau=>?_);refine jA 0 34 (λ_ _ _ h=>cL 34 (by decide) h) ?_;refine jA 1 35 (λ_ _ _ h=>cL 35 (by decide) h) ?_;refine jA 2 36 (λ_ _ _ h=>cL 36 (by decide) h) ?_
   refine jA 3 37 (λ_ _ _ h=>cL 37 (by decide) h) ?_;refine jA 4 38 (λ_ _ _ h=>cL 38 (by decide) h) ?_;refine jA 5 39 (λ_ _ _ h=>cL 39 (by decide) h) ?_;refine jA 6 40 (λ_ _ _ h=>cL 40 (by decide) h) ?_;refine jA 7 41 (λ_ _ _ h=>cL 41 (by decide) h) ?_;refine jA 8 42 (λ_ _ _ h=>cL 42 (by decide) h) ?_;refine jA 9 43 (λ_ _ _ h=>cL 43 (by decide) h) ?_;refine jA 10 44 (λ_ _ _ h=>cL 44 (by decide) h) ?_
   refine jA 11 45 (λ_ _ _ h=>cL 45 (by decide) h) ?_;refine cQ 12 46 λK hK=>?_;go_simp
   go_at_call 102
   refine(KI.o _ _ LV.o).mono ?_;rintro e v2 ⟨rfl,dn⟩;have L2:=xh (LV.o.below dn);have q0:=L2.o.bx.ab (i:=0) rfl;have q5:=L2.o.at_.f5;have q2:=L2.o.at_.f2;rw[xd]at q2;clear dn;go_simp;refine bz hK (⟨q0,q5,q2⟩) (λau=>?_);refine jA 13 33 (λ_ _ _ h=>cL 33 (by decide) h) ?_;refine jA 14 47 (λ_ _ _ h=>cL 47 (by decide) h) ?_;refine jA 15 48 (λ_ _ _ h=>cL 48 (by decide) h) ?_;refine jA 16 8 (λ_ _ _ h=>cL 8 (by decide) h) ?_
   refine jA 17 9 (λ_ _ _ h=>cL 9 (by decide) h) ?_;refine wpAnyH_done (by kernel_rfl) ?_ _;go_wp2_with fail;have LU:=xh (L2.o.below ((Below.refl _ _).drew));have r0:=LU.o.bx.ab (i:=0) rfl;have r1:=LU.o.at_.f0;have r6:=LU.o.at_.f6;clear q0 q5 q2;unfold dp at r1
   refine wp_region_held_drew (S:=λW'=>W'.cell? ⟨w.heap.size,0,none⟩=some (.pointer (some ⟨x.b,0,none⟩))/\W'.cell? ⟨x.b,0,none⟩=some (.pointer (some ⟨x.L.b,0,none⟩))/\W'.cell? ⟨x.b,6,none⟩=some (.int .i64 c.slot)) (by kernel_rfl) (⟨r0,r1,r6⟩) (λau=>?_);refine jA 0 49 (λ_ _ _ h=>cL 49 (by decide) h) ?_;refine jA 1 50 (λ_ _ _ h=>cL 50 (by decide) h) ?_;refine jA 2 51 (λ_ _ _ h=>cL 51 (by decide) h) ?_;refine jA 3 52 (λ_ _ _ h=>cL 52 (by decide) h) ?_
   refine jA 4 53 (λ_ _ _ h=>cL 53 (by decide) h) ?_;refine jA 5 54 (λ_ _ _ h=>cL 54 (by decide) h) ?_;refine jA 6 55 (λ_ _ _ h=>cL 55 (by decide) h) ?_;refine jA 7 56 (λ_ _ _ h=>cL 56 (by decide) h) ?_;refine jA 8 57 (λ_ _ _ h=>cL 57 (by decide) h) ?_;refine jA 9 58 (λ_ _ _ h=>cL 58 (by decide) h) ?_;refine cQ 10 59 λK hK=>?_;go_simp
   go_at_call 103
   refine(KW.o _ LU.o).mono ?_;rintro e v3 ⟨rfl,D3,o3⟩;have L3:=xh (LU.o.step (LU.o.at_.disk D3 o3) o3);have r0:=L3.o.bx.ab (i:=0) rfl;have r1:=L3.o.at_.f0;have r6:=L3.o.at_.f6;unfold dp at r1;clear D3 o3;go_simp;refine bz hK (⟨r0,r1,r6⟩) (λau=>?_);refine cQ 11 60 λK hK=>?_;go_simp
   go_at_call 199
   by_cases hwe:we=0
   rotate_left
   .refine(ue we hwe _).mono ?_;rintro e v4 ⟨rfl,rfl⟩;dsimp only;have LZ:=L3;rw[if_pos (by exact hwe)]at vH;refine leaves_cons (f:=196) (args:= #[.pointer (some ⟨w.heap.size+1,0,none⟩)]) (by simp) (by simp[go_sem]) ?_;refine(ju ⟨w.heap.size+1,0,none⟩ 0 we [] _ (LZ.o.bo.ab (i:=0) rfl) (LZ.o.bo.frozen 0 (by simp))).mono ?_;rintro e u' Pm ⟨rfl,rfl,rfl⟩;obtain⟨y1,y2,y3⟩:=LZ.o.o (.int .i64 we);refine⟨.int .i64 we,?_,?_⟩
    .rw[dJ rfl];clear y1 y2;go_simp
    .subst vH;exact⟨rfl,y1,y2⟩
   subst hwe;rw[if_neg (by simp)]at vH;refine(yG _).mono ?_;rintro e v4 ⟨rfl,rfl⟩;go_simp;refine bz hK (⟨r0,r1,r6⟩) (λau=>?_);refine wpAnyH_done (by kernel_rfl) ?_ _;have KS2:=xh (λ(W:World) (hW:nH w W x n c wd (.slice A i cc) (Rt.dv parts))=>zh hW.at_.hd (by show wd.calls<=_;omega) b3.2);rw[show({c with d:=wd}:C).d=wd from rfl]at KS2;generalize wd.eh=s3 at *;obtain⟨zd,ze⟩:=s3;dsimp only at KS2 vH;subst vH
   have f3:v3.cell? ⟨w.heap.size,0,none⟩=some (.pointer (some ⟨x.b,0,none⟩)):=r0;have g3:v3.cell? ⟨x.b,0,none⟩=some (.pointer (some ⟨x.L.b,0,none⟩)):=r1;clear r0 r1 r6;go_wp2_with fail;refine(KS2.o _ L3.o).mono ?_;rintro e v5 ⟨rfl,D5,o5⟩;have L5:=xh (L3.o.step (L3.o.at_.disk D5 o5) o5);clear D5 o5;go_wp2_with fail
   by_cases hze:ze=0
   .subst hze;refine(yG _).mono ?_;rintro e vm ⟨rfl,rfl⟩;have o1:=L5.o.bo.ab (i:=0) rfl;have o2:=L5.o.bo.frozen 0 (by simp);go_wp2_with fail;refine leaves_cons (f:=196) (args:= #[.pointer (some ⟨w.heap.size+1,0,none⟩)]) (by simp) (by simp[go_sem]) ?_;refine(Le ⟨w.heap.size+1,0,none⟩ _).mono ?_;rintro e u' Pm ⟨rfl,rfl,rfl⟩;obtain⟨y1,y2,y3⟩:=L5.o.o (.int .i64 0);refine⟨.int .i64 0,?_,?_⟩
    .rw[dJ rfl];clear y1 y2;go_simp
    .exact⟨rfl,y1,y2⟩
   .skip
    refine(ue ze hze _).mono ?_;rintro e vm ⟨rfl,rfl⟩;dsimp only;have LZ:=L5;refine leaves_cons (f:=196) (args:= #[.pointer (some ⟨w.heap.size+1,0,none⟩)]) (by simp) (by simp[go_sem]) ?_;refine(ju ⟨w.heap.size+1,0,none⟩ 0 ze [] _ (LZ.o.bo.ab (i:=0) rfl) (LZ.o.bo.frozen 0 (by simp))).mono ?_;rintro e u' Pm ⟨rfl,rfl,rfl⟩;obtain⟨y1,y2,y3⟩:=LZ.o.o (.int .i64 ze);refine⟨.int .i64 ze,?_,?_⟩
    .rw[dJ rfl];clear y1 y2;go_simp
    .exact⟨rfl,y1,y2⟩
section
variable{w w':World}{x:X}{n:Nat}{c:C}
theorem At.Lf(h:At w x n c){g:Nat}{cs:Array Value}(B:aF w g 146 cs):g≠x.mb/\g≠x.mg/\g∉x.L.fp/\∀{v:Value} {k:Nat} {l:List Value},Sl w 3 v k l->g∉cf v:=by
 refine⟨λe=>by subst e;exact B.kl h.hm.hb (by decide) rfl,λe=>by subst e;exact B.kl h.hm.hg (by decide) rfl,λhg=>?_,λS hg=>?_⟩
 .simp only[Loc.fp,aj,gP,or_false]at hg
  rcases hg with rfl|rfl|rfl|rfl
  .exact B.kl h.hd.hb (by decide) rfl
  .exact B.kl h.hd.hN (by decide) rfl
  .exact B.kl h.hd.hO (by decide) rfl
  .exact B.kl h.hd.hL (by decide) rfl
 .obtain⟨cs',B'⟩:=vA S _ hg;exact B.kl B' (by decide) rfl
theorem At.newT(h:At w x n c){v':Value}{l:List Int}(S:Sl w 3 v' l.length (cZ l))(hg:x.mg∉cf v')(ho:∀g∈cf v',g∉cf x.ov)(hp:∀g∈cf v',g∉cf x.pv)(hl:l.length<=512):
  w.cell? ⟨x.b,2,none⟩=some x.tv/\w.frozen? ⟨x.b,2,none⟩=false/\At (w.setCell ⟨x.b,2,none⟩ v') {x with tv:=v'} n {c with table:=l}/\ag [x.b] w (w.setCell ⟨x.b,2,none⟩ v'):=by
 have o2:=(ag.refl [x.b] w).setCell (p:=⟨x.b,2,none⟩) (by simp) v';obtain⟨n1,n2,n3,n4⟩:=h.Lf h.hb;have ns:∀{v:Value} {k:Nat} {l:List Value},Sl w 3 v k l->∀g∈cf v,g∉[x.b]:=λS g hg hm=>n4 S (by rw[<-aI.1 hm];exact hg)
 exact⟨h.f2,h.fz 2 (by omega),⟨h.hb.bU 2 v',h.hd.only o2 (λg hg hm=>n3 (by rw[<-aI.1 hm];exact hg)),h.hm.only o2 (λhm=>n1 (aI.1 hm).symm) (λhm=>n2 (aI.1 hm).symm),S.only o2 (ns S),h.ho.only o2 (ns h.ho),h.hp.only o2 (λg hg hm=>h.hp.aQ h.hb (by decide) (by decide) (by rw[<-aI.1 hm];exact hg)),hg,h.n2,h.n3,ho,hp,h.n6,hl⟩,o2⟩
theorem At.newC(h:At w x n c){vo vp:Value}{lo lp:List Int}(So:Sl w 3 vo lo.length (cZ lo))(Sp:Sl w 3 vp lp.length (cZ lp))(go:∀g∈cf vo,g∉x.fp)(gp:∀g∈cf vp,g∉x.fp)(op:∀g∈cf vo,g∉cf vp)(ep sl:Int):
  At ((((w.setCell ⟨x.b,3,none⟩ vo).setCell ⟨x.b,4,none⟩ vp).setCell ⟨x.b,5,none⟩ (.int .i64 ep)).setCell ⟨x.b,6,none⟩ (.int .i64 sl)) {x with ov:=vo,pv:=vp} n {c with bQ:=lo,parts:=lp,ep:=ep,slot:=sl}/\
  ag [x.b] w ((((w.setCell ⟨x.b,3,none⟩ vo).setCell ⟨x.b,4,none⟩ vp).setCell ⟨x.b,5,none⟩ (.int .i64 ep)).setCell ⟨x.b,6,none⟩ (.int .i64 sl)):=by
 have o2:ag [x.b] w ((((w.setCell ⟨x.b,3,none⟩ vo).setCell ⟨x.b,4,none⟩ vp).setCell ⟨x.b,5,none⟩ (.int .i64 ep)).setCell ⟨x.b,6,none⟩ (.int .i64 sl)):=((((ag.refl [x.b] w).setCell (p:=⟨x.b,3,none⟩) (by simp) _).setCell (p:=⟨x.b,4,none⟩) (by simp) _).setCell (p:=⟨x.b,5,none⟩) (by simp) _).setCell (p:=⟨x.b,6,none⟩) (by simp) _;obtain⟨n1,n2,n3,n4⟩:=h.Lf h.hb
 have ns:∀{v:Value} {k:Nat} {l:List Value},Sl w 3 v k l->∀g∈cf v,g∉[x.b]:=λS g hg hm=>n4 S (by rw[<-aI.1 hm];exact hg)
 exact⟨⟨(((h.hb.bU 3 vo).bU 4 vp).bU 5 _).bU 6 _,h.hd.only o2 (λg hg hm=>n3 (by rw[<-aI.1 hm];exact hg)),h.hm.only o2 (λhm=>n1 (aI.1 hm).symm) (λhm=>n2 (aI.1 hm).symm),h.ht.only o2 (ns h.ht),So.only o2 (ns So),.inl (Sp.only o2 (ns Sp)),h.n1,λhg=>go _ hg (by simp[X.fp]),λhg=>gp _ hg (by simp[X.fp]),λg hg hm=>go g hm (by simp[X.fp,hg]),λg hg hm=>gp g hm (by simp[X.fp,hg]),op,h.tl⟩,o2⟩
end
def C.bY(c:C):C:={c with m:=Fm.ja 1 0 c.m,table:=c.bQ}
theorem Lg{w:World}{x:X}{n:Nat}{c:C}(h:At w x n c)(hol:c.bQ.length<=512):
  Calls prog 101 #[sp x.b] w λe w'=>e=.returned (.bool true)/\yh w w' x n c.bY:=by
 have f1:=h.f1;have KA:=xh (Fm.PV h.hm);have HM:=xh (λ(W':World) (mm:Fm.dE W' x.mb x.mg (Fm.ja 1 0 c.m)) (ow:ag [x.mg] w W')=>h.map mm ow);have KC:=xh (λ(W:World) (c':C) (hW:At W x n c') (hl:c'.bQ.length<=512)=>He hW.ho (by omega));have pQ:=xh h.lt;clear h;unfold sp Fm.mp at *;go_enter func101,ntmps101;go_wp2_with fail;refine KA.o.mono ?_;rintro e w1 ⟨rfl,mm,ow⟩;have A1:=xh (HM.o _ mm ow);have O1:=xh ow;have f3:=A1.o.f3
 obtain⟨VA,vc,hv,_⟩:=A1.o.ho.val;have K2:=KC.o w1 _ A1.o hol;rw[hv]at K2 f3;have K2:=xh K2;have HV:=xh hv;clear mm ow f1 hv;go_wp2_with fail;refine K2.o.mono ?_;rintro e w2 ⟨v',rfl,S2,dn,CQ⟩;have A2:=A1.o.below dn;obtain⟨V2,c2,rfl,_⟩:=S2.val;obtain⟨q2,z2,A3,o3⟩:=A2.newT S2 (λhg=>by have:=A1.o.hm.hg.lt;have:=CQ _ hg;omega) (λg hg ho=>by have:=A1.o.ho.lt g ho;have:=CQ g hg;omega) (λg hg ho=>by have:=A1.o.hp.lt g ho;have:=CQ g hg;omega) hol
 have R:=xh (show yh w (w2.setCell ⟨x.b,2,none⟩ (.slice V2 c.bQ.length c2)) x n c.bY from
  ⟨{x with tv:= .slice V2 c.bQ.length c2},rfl,rfl,A3,((O1.o.mono (λg hg _=>rW x g hg)).trans (.ai dn)).trans (o3.mono (λg hg _=>by simp at hg;subst hg;simp[X.fp])),λg hg=>by
   simp only[X.fp,aj,aB]at hg ⊢
   rcases hg with hg|hg|hg|((hg|hg)|hg)|hg
   .exact .inl (.inl hg)
   .exact .inl (.inr (.inl hg))
   .exact .inl (.inr (.inr (.inl hg)))
   .exact .inl (.inr (.inr (.inr (.inl (.inl (.inl hg))))))
   .exact .inr (by have:=CQ g hg;have:=O1.o.size;omega)
   .exact .inl (.inr (.inr (.inr (.inl (.inr hg)))))
   .exact .inl (.inr (.inr (.inr (.inr hg))))⟩)
 clear S2 dn CQ A2 A3 o3;go_wp2_with fail;go_ret;exact aP R.o
end Sh
namespace Sh
open Go.RowKit Pk Dk Pg
def kn(t:List Int):Nat->Nat
 |0=>0
 |k+1=>if t.getD k 0<0 then kn t k else k+1
theorem mz(t:List Int)(k:Nat):kn t (k+1)=if t.getD k 0<0 then kn t k else k+1:=rfl
theorem zI(t:List Int):∀k,kn t k<=k
 |0=>Nat.le_refl _
 |k+1=>by
  rw[mz]
  split
  .have:=zI t k;omega
  .exact Nat.le_refl _
def takeN(m:List Int):Nat->List Int×List Int
 |0=>(m,[])
 |k+1=>((Fm.cG (takeN m k).1).1,(takeN m k).2++[(Fm.cG (takeN m k).1).2.1])
theorem qY(m:List Int):∀k,(takeN m k).2.length=k
 |0=>rfl
 |k+1=>by show((takeN m k).2++_).length=_;rw[aO,qY m k];rfl
def cv(m:List Int):List Int->List Int
 |[]=>m
 |p::l=>cv (Fm.dD m p).1 l
theorem Fo(m:List Int)(a b:List Int):cv m (a++b)=cv (cv m a) b:=by
 induction a generalizing m with
 |nil=>rfl
 |cons p l ih=>exact ih _
def C.cd(c:C):C:={c with table:=c.table.take (kn c.table c.table.length)}
def C.aE(c:C)(n:Nat):C×Int:=
 if(Fm.gu c.m 0).length<cB c.cd.table.length then(c.cd,11)
 else if 1099511627776<=c.ep then(c.cd,3)
 else if(({c.cd with m:=(takeN c.m (cB c.cd.table.length)).1}:C).bH n ((takeN c.m (cB c.cd.table.length)).2.map Int.toNat)).2≠0 then
  ({c.cd with m:=(takeN c.m (cB c.cd.table.length)).1,d:=(({c.cd with m:=(takeN c.m (cB c.cd.table.length)).1}:C).bH n ((takeN c.m (cB c.cd.table.length)).2.map Int.toNat)).1,broken:=true},(({c.cd with m:=(takeN c.m (cB c.cd.table.length)).1}:C).bH n ((takeN c.m (cB c.cd.table.length)).2.map Int.toNat)).2)
 else({c.cd with m:=Fm.ja 0 1 (cv (takeN c.m (cB c.cd.table.length)).1 c.parts),d:=(({c.cd with m:=(takeN c.m (cB c.cd.table.length)).1}:C).bH n ((takeN c.m (cB c.cd.table.length)).2.map Int.toNat)).1,bQ:=c.cd.table,parts:=(takeN c.m (cB c.cd.table.length)).2,ep:=c.ep+1,slot:=1-c.slot},0)
def NY(w:World)(b:Nat):Nat:=match w.cell? ⟨b,2,none⟩with
 |some (.slice _ n _)=>n
 |_=>0
theorem NZ(k:Nat):Rt.mV (k:Nat)=(cB k:Nat):=by unfold Rt.mV cB;omega
theorem Ui(A:Option Addr)(k m c:Nat):cf (.slice A k c)=cf (.slice A m c):=by cases A<;>rfl
attribute [local go_sem ↓] Go.wp_at_zero Go.wp_at_succ
abbrev rN:=Option (Bool×List UInt8)
def gl(l:List (Option (List UInt8))):List rN:=l.map λo=>o.map λb=>(false,b)
@[simp] theorem Hh(l:List (Option (List UInt8))):(gl l).length=l.length:=by simp[gl]
section
variable{w w':World}{b:Nat}{nv ov:Value}{a:St}{S:List Nat}
end
attribute [local go_sem ↓] bw
end Sh
namespace Sh
open Go.RowKit Pk Dk Pg
attribute [local go_sem ↓] Go.wp_at_zero Go.wp_at_succ
def St.aA(a:St)(l:Int)(p:List UInt8):St×Int:=
 if 232<p.length then(a,4)
 else if ¬(a.at l).isSome=true then(a,3)
 else if cJ (a.at l)=false/\a.free=0 then(a,11)
 else({a with now:=a.now.set l.toNat (some (true,eO p 232))},0)
attribute [local go_sem ↓] bw
def jL(l:List rN):Nat->Nat
 |0=>0
 |k+1=>if((l[k]?).getD none).isSome then k+1 else jL l k
theorem Hi(l:List rN):∀k,jL l k<=k
 |0=>Nat.le_refl _
 |k+1=>by
  unfold jL
  split
  .exact Nat.le_refl _
  .have:=Hi l k;omega
def St.dH(a:St):List (Option (List UInt8)):=(a.now.take (jL a.now a.now.length)).map λo=>o.map Prod.snd
def unfr(o:rN):rN:=o.map λx=>(false,x.2)
theorem Uj(a:St):gl a.dH=(a.now.take (jL a.now a.now.length)).map unfr:=by
 unfold gl St.dH;rw[jR];apply gx;intro o _
 cases o<;>rfl
def St.aE(a:St):St×Int:=if a.free<cB a.dH.length then(a,11)else({a with now:=gl a.dH,bQ:=a.dH,ep:=a.ep+1},0)
theorem zJ(a:St):a.dH.length<=a.now.length:=by
 unfold St.dH;rw[eM,bK];omega
end Sh
namespace Sh
open Go.RowKit Pk Dk Pg
attribute [local go_sem ↓] Go.wp_at_zero Go.wp_at_succ
def Uk(l:List rN)(o:List rN)(i:Nat):Bool:=((o[i]?).getD none).isSome && (!((l[i]?).getD none).isSome || cJ ((l[i]?).getD none))
def Fp(l:List rN)(o:List rN):Nat->Nat
 |0=>0
 |k+1=>Fp l o k+if Uk l o k then 1 else 0
def St.leaving(a:St):Nat:=Fp a.now (gl a.bQ) a.bQ.length
end Sh
namespace Sh
open Go.RowKit Pk Dk Pg
variable{c:C}{n:Nat}
theorem Hj(a b:Int)(l:List Int)(i:Nat)(hi:i<l.length):(Fm.ja a b l).getD i 0=Fm.mU a b (l.getD i 0):=by
 unfold Fm.ja;simp only[List.getD,ic,aG hi,k6,iM]
theorem Lh(g:Good c n):Good c.bY n/\c.bY.bP n={c.bP n with now:=gl (c.bP n).bQ}/\c.bY.d=c.d:=by
 have nX:c.bY.m.length=c.m.length:=by unfold C.bY Fm.ja;simp
 have hk:∀x,cC c.bY x=if x∈c.parts then 1 else if x∈c.bQ then 1 else 0:=by
  intro x;unfold cC C.bY
  by_cases h1:x∈c.parts
  .simp[h1]
  .by_cases h2:x∈c.bQ
   .simp[h1,h2]
   .simp[h1,h2]
 refine⟨⟨g.up,g.arm,g.br,g.ok,nX.trans g.ml,g.ep,g.sl,by rw[nX];exact g.oi,by rw[nX];exact g.oi,by rw[nX];exact g.pi,g.oj,g.oj,g.pj,λx hx=>⟨(g.dt x hx).2,(g.dt x hx).2⟩,g.pl,λi x hi _ _=>hi,λi hi=>?_,λx hx h0=>?_,g.ro⟩,?_,rfl⟩
 .rw[nX]at hi;rw[hk,show c.bY.m=Fm.ja 1 0 c.m from rfl,Hj _ _ _ _ hi,g.md i hi];unfold cC Fm.mU
  by_cases h1:(i:Int)∈c.parts
  .simp[h1]
  .by_cases h2:(i:Int)∈c.bQ
   .by_cases h3:(i:Int)∈c.table<;>simp[h1,h2,h3]
   .by_cases h3:(i:Int)∈c.table<;>simp[h1,h2,h3]
 .obtain⟨q,s,q1,q2,q3,q4⟩:=g.ro x hx h0;exact⟨q,s,q1,by show q<=c.ep+1;omega,q3,q4⟩
 .unfold C.bP;rw[nX];simp only[St.mk.injEq,true_and];refine⟨?_,rfl,rfl⟩;show c.bQ.map (C.cK c.bY n)=gl (c.bQ.map _);unfold gl;rw[jR];refine gx (λx hx=>?_);unfold C.cK;simp only[Function.comp]
  by_cases h:x<0
  .rw[if_pos h,if_pos h];rfl
  .rw[if_neg h,if_neg h];show some (decide (x∉c.bQ),_)=some (false,_);simp[hx];rfl
theorem zK(g:Good c n){k:Nat}(hk:k<c.m.length)(p:List UInt8)(hp:p.length<=232):
  (bm c.d n k (c.ep+1) 2 p).2=0/\∀d',d'=(bm c.d n k (c.ep+1) 2 p).1->d'.down=false/\d'.bn=0/\d'.Ok n/\d'.calls<=c.d.calls+4/\bs d' n k=(⟨k,c.ep+1,2,eO p 232⟩,0)/\
   ∀x:Int,0<=x->x<c.m.length->x≠k->bs d' n x=bs c.d n x:=by
 have e:=g.ep;obtain⟨h1,h2,h3,h4,h5⟩:=mu g.ok g.up g.arm k (c.ep+1) 2 p (jI g hk) (by rw[oA];omega) hp;refine⟨h1,λd' hd=>?_⟩;subst hd;refine⟨h2,h3,sI g.ok _ _ _ _,(qS _ _ _ _ _ _ (by rw[g.arm];omega)).1,h4,λx hx hx1 fc=>?_⟩;have:=h5 x.toNat (jI g (by omega)) (by omega)
 rwa [show((x.toNat:Nat):Int)=x by omega]at this
theorem Li(g:Good c n){x:Nat}(hx:x<c.m.length)(ht:(x:Int)∈c.table):Fm.bZ c.m (x:Int)=decide ((x:Int)∉c.bQ):=by
 unfold Fm.bZ;rw[show Fm.Ce c.m (x:Int)=true from by unfold Fm.Ce;simp;omega,show((x:Nat):Int).toNat=x by omega,g.md x hx];unfold cC;rw[if_neg (λh=>(g.dt _ h).1 ht)]
 by_cases ho:(x:Int)∈c.bQ
 .simp[ho,ht]
 .simp[ho,ht]
theorem xr{α β:Type}(f f':α->β)(t:List α)(k:Nat)(u:α)(v:β)(hu:f' u=v)(h:∀i x,t[i]?=some x->i≠k->f' x=f x):(t.set k u).map f'=(t.map f).set k v:=by
 apply mq;intro i;rw[ic,iy,iy,ic,eM]
 by_cases e:k=i
 .subst e;rw[if_pos rfl,if_pos rfl]
  by_cases hl:k<t.length
  .rw[if_pos hl,if_pos hl,k6,hu]
  .rw[if_neg hl,if_neg hl];rfl
 .rw[if_neg e,if_neg e]
  cases hx:t[i]? with
  |none=>rfl
  |some x=>rw[k6,k6,h i x hx (λh=>e h.symm)]
theorem Lj(g:Good c n)(l:Int)(p:List UInt8):
  Good (c.aA n l p).1 n/\(c.aA n l p).1.bP n=((c.bP n).aA l p).1/\(c.aA n l p).2=((c.bP n).aA l p).2/\(c.aA n l p).1.d.calls<=c.d.calls+4:=by
 obtain⟨h1,h2⟩:=yF g l;unfold C.aA St.aA;rw[if_neg (by rw[g.br];simp),zD g]
 by_cases hp:232<p.length
 .rw[if_pos hp,if_pos hp];exact⟨g,rfl,rfl,by show c.d.calls<=_;omega⟩
 rw[if_neg hp,if_neg hp]
 by_cases hh:c.rM l=true
 .obtain⟨k,x,rfl,hk,hx,e⟩:=h2 hh;have NU:x<c.m.length:=by omega
  have hxt:=ay hk;have e2:c.table.getD ((k:Nat):Int).toNat 0=(x:Int):=by rw[show((k:Nat):Int).toNat=k by omega];simp[List.getD,hk]
  rw[if_pos hh,if_neg (show ¬(0:Int)≠0 by simp),if_neg (show ¬ ¬((c.bP n).at ((k:Nat):Int)).isSome=true by rw[h1.1 hh];simp),e2,e,show((k:Nat):Int).toNat=k by omega];have BH:c.cK n (x:Int)=some (decide ((x:Int)∉c.bQ),(bs c.d n x).1.s):=by unfold C.cK;rw[if_neg (by omega)]
  rw[BH,Li g NU hxt];have Gn:=g.ep
  by_cases ho:(x:Int)∈c.bQ
  .rw[if_neg (show ¬decide ((x:Int)∉c.bQ)=true by simp[ho])]
   by_cases hf:(c.bP n).free=0
   .have GZ:c.bZ n p=(c,0,11):=by unfold C.bZ;rw[vC g hf,if_pos (by simp)]
    rw[GZ];dsimp only;rw[if_pos (show(11:Int)≠0 by decide),if_pos (show(cJ (some (decide ((x:Int)∉c.bQ),(bs c.d n x).1.s))=false/\(c.bP n).free=0)from⟨by simp[cJ,ho],hf⟩)];exact⟨g,rfl,rfl,by show c.d.calls<=_;omega⟩
   .rw[if_neg (show ¬(cJ (some (decide ((x:Int)∉c.bQ),(bs c.d n x).1.s))=false/\(c.bP n).free=0)from λh=>hf h.2)];obtain⟨j,hj,h0,ht⟩:=vB g hf;obtain⟨z1,z2,z3⟩:=G7 h0;obtain⟨W0,W⟩:=zK g hj p (by omega);have GZ:c.bZ n p=({c with m:=c.m.set j 2,d:=(bm c.d n j (c.ep+1) 2 p).1},(j:Int),0):=by
     unfold C.bZ;rw[ht,if_neg (by simp),if_neg (by rw[W0];simp)]
    rw[GZ];dsimp only;rw[if_neg (show ¬(0:Int)≠0 by simp)];obtain⟨w1,w2,w3,w4,w5,w6⟩:=W _ rfl;generalize (bm c.d n j (c.ep+1) 2 p).1=d' at *;have hjx:j≠x:=λe=>z3 (by rw[e];exact hxt);have hlv:(Fm.dD (c.m.set j 2) (x:Int)).1=(c.m.set j 2).set x 3:=by
     unfold Fm.dD;rw[show Fm.Ce (c.m.set j 2) (x:Int)=true from by unfold Fm.Ce;simp;omega,if_pos rfl,show((x:Nat):Int).toNat=x by omega,jJ _ _ _ _ NU,if_neg hjx,g.md x NU];unfold cC;rw[if_neg (λh=>(g.dt _ h).1 hxt),if_pos ho,if_pos hxt];simp
    dsimp only;rw[hlv];have mt:∀y:Int,0<=y->(y∈c.table.set k (j:Int)↔y=j\/(y∈c.table/\y≠x)):=by
     intro y hy
     constructor
     .intro hm;obtain⟨i,hi⟩:=kr hm;rw[iy]at hi
      by_cases e3:k=i
      .rw[if_pos e3]at hi
       split at hi
       .injection hi with hi;exact .inl hi.symm
       .cases hi
      .rw[if_neg e3]at hi;exact .inr ⟨ay hi,λe4=>e3 (g.tj k i y (by rw[e4];exact hk) hi hy)⟩
     .rintro(rfl|⟨hm,fc⟩)
      .have kE:k<c.table.length:=(aM.1 hk).1;exact ay (show(c.table.set k (j:Int))[k]?=some (j:Int) by rw[dI kE])
      .obtain⟨i,hi⟩:=kr hm;have:(c.table.set k (j:Int))[i]?=some y:=by
        rw[iy,if_neg (λe3=>fc (by subst e3;rw[hk]at hi;injection hi with hi;exact hi.symm))];exact hi
       exact ay this
    have hrd:∀y∈c.table,0<=y->bs d' n y=bs c.d n y:=λy hy h0=>by
     have:=g.ti y hy;exact w6 y h0 (by omega) (λe3=>z3 (by rw[<-e3];exact hy))
    have Ul:∀y∈c.bQ,0<=y->bs d' n y=bs c.d n y:=λy hy h0=>by
     have:=g.oi y hy;exact w6 y h0 (by omega) (λe3=>z2 (by rw[<-e3];exact hy))
    have zG:∀y:Int,y<0->y∈c.table.set k (j:Int)->y∈c.table:=λy hy hm=>by
     rcases yn hm with h|h
     .exact h
     .omega
    refine⟨⟨w1,w2,g.br,w3,by show((c.m.set j 2).set x 3).length=_;rw[bW,bW];exact g.ml,g.ep,g.sl,?_,?_,?_,?_,g.oj,g.pj,?_,g.pl,?_,?_,?_,?_⟩,?_,rfl,w4⟩
    .intro y hy;show y= -1\/0<=y/\y<(((c.m.set j 2).set x 3).length:Int);rw[bW,bW]
     by_cases h0:0<=y
     .rcases(mt y h0).1 hy with rfl|⟨h,_⟩
      .omega
      .exact g.ti y h
     .exact g.ti y (zG y (by omega) hy)
    .intro y hy;show y= -1\/0<=y/\y<(((c.m.set j 2).set x 3).length:Int);rw[bW,bW];exact g.oi y hy
    .intro y hy;show 0<=y/\y<(((c.m.set j 2).set x 3).length:Int);rw[bW,bW];exact g.pi y hy
    .exact g.tj.bU k _ (.inr z3)
    .intro y hy;refine⟨λhm=>?_,(g.dt y hy).2⟩
     rcases(mt y (g.pi y hy).1).1 hm with rfl|⟨h,_⟩
     .exact z1 hy
     .exact(g.dt y hy).1 h
    .intro i y hi hy hyo;have hi:(c.table.set k (j:Int))[i]?=some y:=hi;rw[iy]at hi
     split at hi
     .split at hi
      .injection hi with hi
       subst hi;exact absurd hyo z2
      .cases hi
     .exact g.sm i y hi hy hyo
    .intro i hi;have hi:i<c.m.length:=by simpa using hi
     show((c.m.set j 2).set x 3).getD i 0=cC _ (i:Int);rw[jJ _ _ _ _ (by rw[bW];exact hi),jJ _ _ _ _ hi];have hk2:cC {c with d:=d',m:=(c.m.set j 2).set x 3,table:=c.table.set k (j:Int)} (i:Int)=if(i:Int)∈c.parts then 1 else if(i:Int)∈c.bQ then(if(i:Int)∈c.table.set k (j:Int)then 1 else 3)else if(i:Int)∈c.table.set k (j:Int)then 2 else 0:=rfl
     rw[hk2];simp only[mt (i:Int) (by omega)]
     by_cases ei:x=i
     .subst ei;rw[if_pos rfl,if_neg (λh=>(g.dt _ h).1 hxt),if_pos ho,if_neg (by omega)]
     .rw[if_neg ei]
      by_cases ej:j=i
      .subst ej;rw[if_pos rfl,if_neg z1,if_neg z2,if_pos (.inl rfl)]
      .rw[if_neg ej,g.md i hi];unfold cC;have:((i:Int)=(j:Int)\/(i:Int)∈c.table/\(i:Int)≠(x:Int))↔(i:Int)∈c.table:=by
        constructor
        .rintro(h|h)
         .omega
         .exact h.1
        .exact λh=> .inr ⟨h,by omega⟩
       simp only[this]
    .intro y hy h0
     rcases(mt y h0).1 hy with rfl|⟨h,_⟩
     .exact⟨c.ep+1,_,by omega,jg _,lz p (by omega),w5⟩
     .obtain⟨q,s,q1,q2,q3,q4⟩:=g.rt y h h0;exact⟨q,s,q1,q2,q3,(hrd y h h0).trans q4⟩
    .intro y hy h0;obtain⟨q,s,q1,q2,q3,q4⟩:=g.ro y hy h0;exact⟨q,s,q1,q2,q3,(Ul y hy h0).trans q4⟩
    .unfold C.bP;simp only[bW,St.mk.injEq,true_and,and_true];refine⟨?_,?_⟩
     .refine xr _ _ _ _ _ _ ?_ (λi y hi _=>?_)
      .unfold C.cK;rw[if_neg (by omega)];simp only[w5];simp[z2]
      .unfold C.cK
       by_cases h:y<0
       .rw[if_pos h,if_pos h]
       .rw[if_neg h,if_neg h];simp only[hrd y (ay hi) (by omega)]
     .refine gx (λy hy=>?_)
      by_cases h:y<0
      .rw[if_pos h,if_pos h]
      .rw[if_neg h,if_neg h];simp only[Ul y hy (by omega)]
  .rw[if_pos (show decide ((x:Int)∉c.bQ)=true by simp[ho]),if_neg (show ¬(cJ (some (decide ((x:Int)∉c.bQ),(bs c.d n x).1.s))=false/\(c.bP n).free=0) by simp[cJ,ho])];obtain⟨W0,W⟩:=zK g NU p (by omega);rw[W0];obtain⟨w1,w2,w3,w4,w5,w6⟩:=W _ rfl;generalize (bm c.d n x (c.ep+1) 2 p).1=d' at *;have Ul:∀y∈c.bQ,0<=y->bs d' n y=bs c.d n y:=λy hy h0=>by
    have:=g.oi y hy;exact w6 y h0 (by omega) (λe3=>ho (by rw[<-e3];exact hy))
   have hrd:∀y∈c.table,0<=y->y≠x->bs d' n y=bs c.d n y:=λy hy h0 fc=>by
    have:=g.ti y hy;exact w6 y h0 (by omega) fc
   refine⟨⟨w1,w2,g.br,w3,g.ml,g.ep,g.sl,g.ti,g.oi,g.pi,g.tj,g.oj,g.pj,g.dt,g.pl,g.sm,g.md,λy hy h0=>?_,λy hy h0=>?_⟩,?_,rfl,w4⟩
   .by_cases ey:y=x
    .subst ey;exact⟨c.ep+1,_,by omega,jg _,lz p (by omega),w5⟩
    .obtain⟨q,s,q1,q2,q3,q4⟩:=g.rt y hy h0;exact⟨q,s,q1,q2,q3,(hrd y hy h0 ey).trans q4⟩
   .obtain⟨q,s,q1,q2,q3,q4⟩:=g.ro y hy h0;exact⟨q,s,q1,q2,q3,(Ul y hy h0).trans q4⟩
   .unfold C.bP;simp only[St.mk.injEq,true_and,and_true];refine⟨?_,?_⟩
    .have:=xr (c.cK n) (C.cK {c with d:=d'} n) c.table k (x:Int) (some (true,eO p 232)) (by
      unfold C.cK;rw[if_neg (by omega)];simp only[w5];simp[ho]) (λi y hi fc=>by
      unfold C.cK
      by_cases h:y<0
      .rw[if_pos h,if_pos h]
      .rw[if_neg h,if_neg h];simp only[hrd y (ay hi) (by omega) (λey=>fc (g.tj i k y hi (by rw[ey];exact hk) (by omega)))])
     rw[<-this]
     congr 1
     apply mq;intro i;rw[iy]
     by_cases e3:k=i
     .subst e3;rw[if_pos rfl,if_pos (aM.1 hk).1,hk]
     .rw[if_neg e3]
    .refine gx (λy hy=>?_)
     by_cases h:y<0
     .rw[if_pos h,if_pos h]
     .rw[if_neg h,if_neg h];simp only[Ul y hy (by omega)]
 .rw[if_neg hh,if_pos (show(3:Int)≠0 by decide)];have:((c.bP n).at l)=none:=by
   cases h:(c.bP n).at l with
   |none=>rfl
   |some v=>exact absurd (h1.2 (by rw[h];rfl)) hh
  rw[this,if_pos (show ¬(none:Option (Bool×List UInt8)).isSome=true by simp)];exact⟨g,rfl,rfl,by show c.d.calls<=_;omega⟩
variable{n:Nat}{d:D}
theorem Qh(l:List Bool)(k:Nat)(x:Bool)(i:Nat):(l.set k x).getD i false=if k=i/\k<l.length then x else l.getD i false:=by
 simp only[List.getD,iy]
 by_cases h:k=i
 .subst h
  by_cases h2:k<l.length
  .simp[h2]
  .simp[h2]
 .simp[h]
def Calm(n:Nat)(P:Nat->Prop)(d d':D):Prop:= ∀j,j<n->P j->sec d'.now j=sec d.now j/\(d.loose.getD j false=false->d'.loose.getD j false=false)
theorem Calm.refl{P:Nat->Prop}(d:D):Calm n P d d:=λ_ _ _=>⟨rfl,id⟩
theorem Calm.trans{P:Nat->Prop}{a b c:D}(h:Calm n P a b)(k:Calm n P b c):Calm n P a c:=λj hj hp=>by
 obtain⟨h1,h2⟩:=h j hj hp;obtain⟨k1,k2⟩:=k j hj hp;exact⟨k1.trans h1,λe=>k2 (h2 e)⟩
theorem Lk(d:D):d.cF.1.now=d.now/\d.cF.1.loose=d.loose/\d.cF.1.bQ=d.bQ:=by
 unfold D.cF
 split
 .exact⟨rfl,rfl,rfl⟩
 .split<;>exact⟨rfl,rfl,rfl⟩
theorem Ll(d:D)(k j:Nat)(h:k≠j):(d.il k).loose.getD j false=d.loose.getD j false:=by
 unfold D.il
 split
 .rfl
 .show(d.loose.set k true).getD j false=_;rw[Qh,if_neg (λe=>h e.1)]
theorem Lm{P:Nat->Prop}(fT:d.Ok n)(k:Int)(s:List UInt8)(hP:∀j:Nat,(j:Int)=k->¬P j):Calm n P d (d.aA n k s).1:=by
 intro j hj hp;unfold D.aA
 by_cases h0:d.jD n k=0
 .rw[if_pos h0];have hk:0<=k/\k<n:=by
   unfold D.jD at h0
   split at h0
   .cases h0
   .split at h0
    .assumption
    .cases h0
  have fc:k.toNat≠j:=λe=>hP j (by omega) hp;obtain⟨c1,c2,_⟩:=Lk (d.du k.toNat s);rw[c1,c2];refine⟨?_,λe=>?_⟩
  .show sec (gj d.now k.toNat (jV s)) j=_;rw[NA fT.now (by omega) (jW s) hj,if_neg fc]
  .show(d.il k.toNat).loose.getD j false=false;rw[Ll _ _ _ fc];exact e
 .rw[if_neg h0];exact⟨rfl,id⟩
theorem N3{P:Nat->Prop}(fT:d.Ok n)(k:Nat)(b:List UInt8)(hP:∀j,k<=j->j<k+4->¬P j):∀i,i<=4->Calm n P d (w4 d n k b i).1
 |0,_=> .refl d
 |i+1,hi=>by
  have ih:=N3 fT k b hP i (by omega);unfold w4
  split
  .exact ih.trans (Lm (zj fT k b i) _ _ (λj e=>hP j (by omega) (by omega)))
  .exact ih
theorem pW{P:Nat->Prop}(fT:d.Ok n)(id ep kd:Int)(s:List UInt8)(hP:∀j:Nat,2+4*id.toNat<=j->j<2+4*id.toNat+4->¬P j):Calm n P d (bm d n id ep kd s).1:=by
 unfold bm
 split
 .exact .refl d
 .split
  .exact .refl d
  .exact N3 fT _ _ hP 4 (Nat.le_refl _)
theorem Qi(n j:Nat):(List.replicate n false).getD j false=false:=by
 simp only[List.getD,Ej]
 split<;>rfl
theorem sK(h:d.eh.2=0)(j:Nat):d.eh.1.loose.getD j false=false:=by
 unfold D.eh at h ⊢
 by_cases hd:d.down=true
 .rw[if_pos hd]at h;cases h
 rw[if_neg hd]at h ⊢
 by_cases hc:d.cF.2=0
 .rw[if_pos hc];exact Qi _ _
 .rw[if_neg hc]at h;exact absurd h hc
theorem vI{d':D}(hd:d'.down=d.down)(x:Nat)(hx:x<ct n)(h:∀j,2+4*x<=j->j<2+4*x+4->sec d'.now j=sec d.now j):bs d' n x=bs d n x:=by
 have e:(d'.now.drop (64*(2+4*x))).take 256=(d.now.drop (64*(2+4*x))).take 256:=by
  rw[l6,l6,h _ (by omega) (by omega),h _ (by omega) (by omega),h _ (by omega) (by omega),h _ (by omega) (by omega)]
 unfold bs;rw[hd,show((x:Nat):Int).toNat=x by omega,e]
def arm(u:D)(a:Int):D:={u with bn:=a}
variable{d:D}{n:Nat}{x:Int}{bQ parts:List Int}
def upD(d:D):D:={d with down:=false}
theorem upD_eq(h:d.down=false):upD d=d:=by unfold upD;rw[<-h]
def Kept(parts bQ:List Int)(j:Nat):Prop:=j<2\/∃x:Nat,((x:Int)∈parts\/(x:Int)∈bQ)/\2+4*x<=j/\j<2+4*x+4
structure iG(d:D)(n:Nat)(ep slot:Int)(bQ parts:List Int):Prop where
 n2:2<=n
 ro:Rt.iC ep (bQ.length:Nat) parts
 sl:slot=0\/slot=1
 rt:sec d.now slot.toNat=Rt.eV ep bQ.length (parts.map Int.toNat)
 ot:Rt.goodR (sec d.now (1-slot).toNat)->Rt.pU (sec d.now (1-slot).toNat)<ep
 pp:∀(i:Nat) (x:Int),parts[i]?=some x->∃q,0<=q/\q<=ep/\bs (upD d) n x=(⟨x,q,1,eO (Rt.jb (Rt.ie bQ i)) 232⟩,0)
 lo:∀j,j<n->Kept parts bQ j->d.loose.getD j false=false
def Twin(d:D)(slot ep:Int):Prop:=(sec d.now (1-slot).toNat).take 8=(sec d.now (1-slot).toNat).drop 56/\Rt.pU (sec d.now (1-slot).toNat)<ep
theorem Um(h:(bs d n x).2=0):0<=x/\x<ct n:=by
 unfold bs at h
 by_cases hx:x<0\/(ct n:Int)<=x
 .rw[if_pos hx]at h;exact absurd h (by decide)
 .omega
theorem Fq{x:Nat}(hx:x<ct n):2+4*x+4<=n:=by unfold ct at hx;omega
theorem iG.calm{d':D}{ep slot:Int}(R:iG d n ep slot bQ parts)(h:Calm n (Kept parts bQ) d d'):iG d' n ep slot bQ parts:=by
 have n2:=R.n2;have hs:=R.sl;have e1:=(h slot.toNat (by omega) (.inl (by omega))).1;have e2:=(h (1-slot).toNat (by omega) (.inl (by omega))).1;refine⟨R.n2,R.ro,R.sl,e1.trans R.rt,by rw[e2];exact R.ot,λi x hx=>?_,λj hj hk=>(h j hj hk).2 (R.lo j hj hk)⟩;obtain⟨q,q0,q1,q2⟩:=R.pp i x hx;obtain⟨h0,h1⟩:=Um (by rw[q2]);refine⟨q,q0,q1,?_⟩;rw[<-q2]
 have:=vI (d:=upD d) (d':=upD d') (n:=n) rfl x.toNat (by omega) (λj a b=>(h j (by have:=Fq (show x.toNat<ct n by omega);omega) (.inr ⟨x.toNat,.inl (by rw[show((x.toNat:Nat):Int)=x by omega];exact ay hx),a,b⟩)).1)
 rwa [show((x.toNat:Nat):Int)=x by omega]at this
theorem Hk{k:Nat}(h1:(k:Int)∉parts)(h2:(k:Int)∉bQ)(j:Nat)(a:2+4*k<=j)(b:j<2+4*k+4):¬Kept parts bQ j:=by
 rintro(h|⟨x,h,c,e⟩)
 .omega
 .obtain rfl:x=k:=by omega
  exact h.elim h1 h2
def C.on(c:C)(d:D):C:={c with d:=d}
theorem Hl{c:C}(g:Good c n)(d0:D)(p:List UInt8)(fT:d0.Ok n):Calm n (Kept c.parts c.bQ) d0 ((c.on d0).bZ n p).1.d:=by
 by_cases hf:(c.bP n).free=0
 .unfold C.bZ;have e2:Fm.cG (c.on d0).m=Fm.cG c.m:=rfl;rw[e2,vC g hf,if_pos (by simp)];exact .refl d0
 .obtain⟨k,hk,h0,e⟩:=vB g hf;obtain⟨z1,z2,z3⟩:=G7 h0;have this:Calm n (Kept c.parts c.bQ) d0 (bm (c.on d0).d n ((k:Nat):Int) ((c.on d0).ep+1) 2 p).1:=pW fT ((k:Nat):Int) (c.ep+1) 2 p (λj a b=>Hk z1 z2 j (by omega) (by omega));unfold C.bZ;have e2:Fm.cG (c.on d0).m=Fm.cG c.m:=rfl;rw[e2,e,if_neg (by simp)]
  split
  .exact this
  .exact this
theorem new_on{c:C}(g:Good c n)(d0:D)(p:List UInt8)(fT:d0.Ok n):Calm n (Kept c.parts c.bQ) d0 ((c.on d0).bJ n p).1.d:=by
 have:=Hl g d0 p fT;unfold C.bJ;rw[if_neg (show ¬(c.on d0).broken=true by show ¬c.broken=true;rw[g.br];simp)]
 split
 .exact .refl d0
 .split
  .exact .refl d0
  .split
   .exact this
   .exact this
theorem Qj{c:C}(g:Good c n)(h:Fm.bZ c.m x=true):∃k:Nat,x=k/\k<c.m.length/\(k:Int)∉c.parts/\(k:Int)∉c.bQ:=by
 unfold Fm.bZ Fm.Ce at h;simp only[ig,decide_eq_true_eq,beq_iff_eq]at h;obtain⟨⟨h0,h1⟩,h2⟩:=h;refine⟨x.toNat,by omega,by omega,?_⟩;rw[g.md _ (by omega)]at h2;unfold cC at h2
 split at h2
 .omega
 .split at h2
  .split at h2<;>omega
  .exact⟨by assumption,by assumption⟩
theorem Un{c:C}(g:Good c n)(d0:D)(l:Int)(p:List UInt8)(fT:d0.Ok n):Calm n (Kept c.parts c.bQ) d0 ((c.on d0).aA n l p).1.d:=by
 have:=Hl g d0 p fT;unfold C.aA;rw[if_neg (show ¬(c.on d0).broken=true by show ¬c.broken=true;rw[g.br];simp)]
 split
 .exact .refl d0
 .split
  .exact .refl d0
  .split
   .rename_i hf;obtain⟨k,e,hk,z1,z2⟩:=Qj g hf;show Calm n _ d0 (bm d0 n _ _ _ _).1;exact pW fT _ _ _ _ (λj a b=>by
     have e:((c.on d0).table.getD l.toNat 0).toNat=k:=by omega
     rw[e]at a b;exact Hk z1 z2 j a b)
   .split
    .exact this
    .exact this
theorem Ln{c:C}(g:Good c n)(R:iG c.d n c.ep c.slot c.bQ c.parts)(p:List UInt8):iG (c.bJ n p).1.d n c.ep c.slot c.bQ c.parts:=R.calm (new_on g c.d p g.ok)
theorem Fs{c:C}(g:Good c n)(R:iG c.d n c.ep c.slot c.bQ c.parts)(l:Int)(p:List UInt8):iG (c.aA n l p).1.d n c.ep c.slot c.bQ c.parts:=R.calm (Un g c.d l p g.ok)
theorem Lo(c:C)(n:Nat)(p:List UInt8):(c.bJ n p).1.bQ=c.bQ/\(c.bJ n p).1.parts=c.parts/\(c.bJ n p).1.ep=c.ep/\(c.bJ n p).1.slot=c.slot/\(c.bJ n p).1.broken=c.broken:=by
 obtain⟨f1,f2,f3,f4,f5,f6⟩:=lX c n p;unfold C.bJ
 split
 .exact⟨rfl,rfl,rfl,rfl,rfl⟩
 .split
  .exact⟨rfl,rfl,rfl,rfl,rfl⟩
  .split
   .exact⟨rfl,rfl,rfl,rfl,rfl⟩
   .split
    .exact⟨f2,f3,f4,f5,f6⟩
    .exact⟨f2,f3,f4,f5,f6⟩
theorem Ft(c:C)(n:Nat)(l:Int)(p:List UInt8):(c.aA n l p).1.bQ=c.bQ/\(c.aA n l p).1.parts=c.parts/\(c.aA n l p).1.ep=c.ep/\(c.aA n l p).1.slot=c.slot/\(c.aA n l p).1.broken=c.broken:=by
 obtain⟨f1,f2,f3,f4,f5,f6⟩:=lX c n p;unfold C.aA
 split
 .exact⟨rfl,rfl,rfl,rfl,rfl⟩
 .split
  .exact⟨rfl,rfl,rfl,rfl,rfl⟩
  .split
   .exact⟨rfl,rfl,rfl,rfl,rfl⟩
   .split
    .exact⟨rfl,rfl,rfl,rfl,rfl⟩
    .split
     .exact⟨f2,f3,f4,f5,f6⟩
     .exact⟨f2,f3,f4,f5,f6⟩
variable{x:Int}{c:C}{n:Nat}
theorem Lq{m:List Int}(h:∃i,i<m.length/\m.getD i 0=0):Fm.cR m 0<m.length/\m.getD (Fm.cR m 0) 0=0:=by
 obtain⟨i,hi,h0⟩:=h;have dP:Fm.cR m 0<m.length:=by
  unfold Fm.cR;rw[JT];refine⟨m[i],kt hi,?_⟩;simp[List.getD,aG hi]at h0;simp[h0]
 refine⟨dP,?_⟩;have:=pG (p:=(· ==(0:Int))) (xs:=m) (w:=dP);simp[List.getD];unfold Fm.cR at dP ⊢;rw[aG dP];simpa using this
theorem zL(m:List Int):∀k,k<=(Fm.gu m 0).length->(takeN m k).1.length=m.length/\(takeN m k).2.Nodup/\(∀x∈(takeN m k).2,∃i:Nat,x=i/\i<m.length/\m.getD i 0=0)/\∀i:Nat,i<m.length->(takeN m k).1.getD i 0=if(i:Int)∈(takeN m k).2 then 2 else m.getD i 0
 |0,_=>⟨rfl,mP,by simp[takeN],λi hi=>by simp[takeN]⟩
 |k+1,h=>by
  obtain⟨h1,h2,h3,h4⟩:=zL m k (by omega);have hl:=qY m k;have hz:∃i,i<(takeN m k).1.length/\(takeN m k).1.getD i 0=0:=by
   by_cases hh:∃i,i<(takeN m k).1.length/\(takeN m k).1.getD i 0=0
   .exact hh
   .have:=ly (Fm.gu m 0) (takeN m k).2 (jG m 0) (λx hx=>by
     obtain⟨i,rfl,hi,h0⟩:=fU.1 hx
     by_cases hm:(i:Int)∈(takeN m k).2
     .exact hm
     .exact absurd ⟨i,by rw[h1];exact hi,by rw[h4 i hi,if_neg hm];exact h0⟩ hh)
    omega
  obtain⟨f1,f2⟩:=Lq hz;obtain⟨F,hF⟩:∃F,Fm.cR (takeN m k).1 0=F:=⟨_,rfl⟩;rw[hF]at f1 f2;have e:Fm.cG (takeN m k).1=((takeN m k).1.set F 2,((F:Nat):Int),0):=by unfold Fm.cG;rw[hF,if_pos f1]
  have e1:(takeN m (k+1)).1=(takeN m k).1.set F 2:=by show(Fm.cG _).1=_;rw[e]
  have e2:(takeN m (k+1)).2=(takeN m k).2++[((F:Nat):Int)]:=by show _++[(Fm.cG _).2.1]=_;rw[e]
  have hFm:F<m.length:=by rw[<-h1];exact f1
  have hFn:((F:Nat):Int)∉(takeN m k).2:=λhm=>by
   rw[h4 F hFm,if_pos hm]at f2;omega
  have hF0:m.getD F 0=0:=by
   rw[h4 F hFm,if_neg hFn]at f2;exact f2
  rw[e1,e2];refine⟨by rw[bW];exact h1,?_,λx hx=>?_,λi hi=>?_⟩
  .rw[ik];refine⟨h2,by simp,λa ha b hb e=>?_⟩;rw[aI.1 hb]at e;exact hFn (by rw[<-e];exact ha)
  .rcases aB.1 hx with hx|hx
   .exact h3 x hx
   .exact⟨F,aI.1 hx,hFm,hF0⟩
  .rw[jJ _ _ _ _ (by omega)]
   by_cases e:F=i
   .subst e;rw[if_pos rfl,if_pos (bC _ (aI.2 rfl))]
   .rw[if_neg e,h4 i hi];have:((i:Int)∈(takeN m k).2++[((F:Nat):Int)])↔(i:Int)∈(takeN m k).2:=by
     rw[aB,aI];exact⟨λh=>h.elim id (λh=>by omega),.inl⟩
    simp only[this]
theorem nj:∀(L:List Int) (m:List Int),L.Nodup->(∀x∈L,∃i:Nat,x=i/\i<m.length/\m.getD i 0=1)->(cv m L).length=m.length/\∀i:Nat,i<m.length->(cv m L).getD i 0=if(i:Int)∈L then 3 else m.getD i 0
 |[],m,_,_=>⟨rfl,λi hi=>by simp[cv]⟩
 |x::L,m,hn,h=>by
  obtain⟨n1,n2⟩:=fu.1 hn;obtain⟨k,rfl,hk,h1⟩:=h x (fK ..);have e:(Fm.dD m ((k:Nat):Int)).1=m.set k 3:=by
   unfold Fm.dD;rw[show Fm.Ce m ((k:Nat):Int)=true from by unfold Fm.Ce;simp;omega,if_pos rfl,show((k:Nat):Int).toNat=k by omega,h1,if_neg (by decide),if_pos rfl]
  obtain⟨r1,r2⟩:=nj L (m.set k 3) n2 (λy hy=>by
   obtain⟨i,rfl,hi,h0⟩:=h y (aw _ hy);exact⟨i,rfl,by rw[bW];exact hi,by rw[jJ _ _ _ _ hi,if_neg (λe=>n1 (by rw[e];exact hy))];exact h0⟩)
  rw[bW]at r1 r2;show(cv (Fm.dD m ((k:Nat):Int)).1 L).length=_/\∀i:Nat,i<m.length->(cv (Fm.dD m ((k:Nat):Int)).1 L).getD i 0=_;rw[e];refine⟨r1,λi hi=>?_⟩;rw[r2 i hi,jJ _ _ _ _ hi]
  by_cases uT:k=i
  .subst uT;rw[if_pos (fK ..),if_neg n1,if_pos rfl]
  .rw[if_neg uT];have:((i:Int)∈((k:Nat):Int)::L)↔(i:Int)∈L:=by
    rw[aj];exact⟨λh=>h.elim (λh=>by omega) id,.inr⟩
   simp only[this]
theorem vJ(t:List Int):∀k i,kn t k<=i->i<k->t.getD i 0<0
 |0,i,_,h=>by omega
 |k+1,i,h,hi=>by
  rw[mz]at h
  split at h
  .by_cases e:i=k
   .subst e;assumption
   .exact vJ t k i h (by omega)
  .omega
theorem Hm{t:List Int}(h0:0<=x):x∈t.take (kn t t.length)↔x∈t:=by
 refine⟨gM,λh=>?_⟩;obtain⟨i,hi⟩:=kr h;have hl:=(aM.1 hi).1;have dP:i<kn t t.length:=by
  refine Nat.lt_of_not_le (λhle=>?_);have:=vJ t t.length i hle hl;simp only[List.getD,hi,iM]at this;omega
 have:(t.take (kn t t.length))[i]?=some x:=by rw[pH dP];exact hi
 exact ay this
theorem uf{α:Type}{t:List α}{k i:Nat}{x:α}(h:(t.take k)[i]?=some x):t[i]?=some x:=by
 have hl:=(aM.1 h).1;rw[bK]at hl;rw[pH (by omega)]at h;exact h
def St.pad(b:St)(k:Nat):St:={b with now:=b.now++List.replicate k none}
theorem Qk(c:C)(h0:0<=x):cC c.cd x=cC c x:=by
 unfold cC;show(if x∈c.parts then 1 else if x∈c.bQ then(if x∈c.table.take _ then 1 else 3)else if x∈c.table.take _ then 2 else 0:Int)=_;simp only[Hm h0]
theorem CU(g:Good c n):Good c.cd n/\c.bP n=(c.cd.bP n).pad (c.table.length-kn c.table c.table.length):=by
 have hle:=zI c.table c.table.length;refine⟨⟨g.up,g.arm,g.br,g.ok,g.ml,g.ep,g.sl,λx hx=>g.ti x (gM hx),g.oi,g.pi,λi j x hi hj=>g.tj i j x (uf hi) (uf hj),g.oj,g.pj,λx hx=>⟨λh=>(g.dt x hx).1 (gM h),(g.dt x hx).2⟩,g.pl,λi x hi=>g.sm i x (uf hi),λi hi=>?_,λx hx=>g.rt x (gM hx),g.ro⟩,?_⟩
 .rw[Qk c (by omega)];exact g.md i hi
 .unfold C.bP St.pad;simp only[St.mk.injEq,true_and];refine⟨rfl,?_,rfl,rfl⟩;have e:c.table=c.cd.table++c.table.drop (kn c.table c.table.length):=(kW _ _).symm;have e2:(c.table.drop (kn c.table c.table.length)).map (c.cK n)=List.replicate (c.table.length-kn c.table c.table.length) none:=by
   rw[List.eq_replicate_iff];refine⟨by simp,λb hb=>?_⟩;obtain⟨x,hx,rfl⟩:=dm.1 hb;obtain⟨i,hi⟩:=kr hx;rw[gK]at hi;have hl:=(aM.1 hi).1;have:=vJ c.table c.table.length _ (Ey _ i) hl;simp only[List.getD,hi,iM]at this;unfold C.cK;rw[if_pos this]
  have e3:c.table.map (c.cK n)=c.cd.table.map (c.cK n)++(c.table.drop (kn c.table c.table.length)).map (c.cK n):=by
   rw[<-ez,<-e]
  rw[e3,e2];rfl
theorem part_le(l:List Int)(i:Nat):(Rt.jb (Rt.ie l i)).length<=232:=by
 unfold Rt.jb;rw[Rt.Hb,eM,Rt.xq];omega
theorem vK:∀{l:List Int} {i j:Nat} {x:Int},l.Nodup->l[i]?=some x->l[j]?=some x->i=j
 |[],i,j,x,_,hi,_=>by simp at hi
 |y::l,0,0,x,_,_,_=>rfl
 |y::l,0,j+1,x,h,hi,hj=>by
  have hj:l[j]?=some x:=by simpa using hj
  have hi:y=x:=by simpa using hi
  subst hi;exact absurd (ay hj) (fu.1 h).1
 |y::l,i+1,0,x,h,hi,hj=>by
  have hi:l[i]?=some x:=by simpa using hi
  have hj:y=x:=by simpa using hj
  subst hj;exact absurd (ay hi) (fu.1 h).1
 |y::l,i+1,j+1,x,h,hi,hj=>by
  have:=vK (l:=l) (i:=i) (j:=j) (x:=x) (fu.1 h).2 (by simpa using hi) (by simpa using hj);omega
def InP(P:List Int)(j:Nat):Prop:= ∃x:Nat,(x:Int)∈P/\2+4*x<=j/\j<2+4*x+4
theorem CY(hd:c.d.down=false)(ha:c.d.bn=0)(fT:c.d.Ok n){P:List Int}(hP:P.Nodup)(hr:∀x∈P,∃k:Nat,x=k/\k<ct n)(he:0<=c.ep/\c.ep<1099511627776):∀i,i<=P.length->
  (c.gE n P i).2=0/\(c.gE n P i).1.down=false/\(c.gE n P i).1.bn=0/\(c.gE n P i).1.Ok n/\(c.gE n P i).1.calls<=c.d.calls+4*i/\
   (∀(j:Nat) (x:Int),j<i->P[j]?=some x->bs (c.gE n P i).1 n x=(⟨x,c.ep+1,1,eO (Rt.jb (Rt.ie c.table j)) 232⟩,0))/\Calm n (λj=> ¬InP P j) c.d (c.gE n P i).1
 |0,_=>⟨rfl,hd,ha,fT,by show c.d.calls<=_;omega,λj x hj=>by omega,.refl _⟩
 |i+1,hi=>by
  obtain⟨h1,h2,h3,h4,h5,h6,h7⟩:=CY hd ha fT hP hr he i (by omega);obtain⟨x,hx⟩:∃x,P[i]?=some x:=⟨_,aG (by omega)⟩;have hxm:=ay hx;obtain⟨k,rfl,hk⟩:=hr x hxm;have eD:P.getD i 0=((k:Nat):Int):=by simp[List.getD,hx]
  rw[vG,if_neg (by rw[h1];decide),eD];obtain⟨w1,w2,w3,w4,w5⟩:=mu h4 h2 h3 k (c.ep+1) 1 (Rt.jb (Rt.ie c.table i)) hk (by rw[oA];omega) (part_le _ _);have hb:=(qS (c.gE n P i).1 n ((k:Nat):Int) (c.ep+1) 1 (Rt.jb (Rt.ie c.table i)) (by rw[h3];omega)).1;refine⟨w1,w2,w3,sI h4 _ _ _ _,by omega,λj y hj hy=>?_,h7.trans (pW h4 _ _ _ _ (λj a b hn=>hn ⟨k,hxm,by omega,by omega⟩))⟩
  by_cases e:j=i
  .subst e;rw[hx]at hy;injection hy with hy
   subst hy;exact w4
  .obtain⟨k',rfl,hk'⟩:=hr y (ay hy);rw[w5 k' hk' (λe2=>e (by
    subst e2;exact vK hP hy hx))]
   exact h6 j _ (by omega) hy
theorem fill64{b:List UInt8}(h:b.length=64):jV b=b:=vy b h
theorem Ql(hd:c.d.down=false)(ha:c.d.bn=0)(fT:c.d.Ok n){P:List Nat}(hP:(Rt.dv P).Nodup)(hr:∀x∈Rt.dv P,∃k:Nat,x=k/\k<ct n)(he:0<=c.ep/\c.ep<1099511627776)(hn:2<=n)(hs:c.slot=0\/c.slot=1)(h5:P.length<=5):
  (c.bH n P).2=0/\(c.bH n P).1.down=false/\(c.bH n P).1.bn=0/\(c.bH n P).1.Ok n/\(c.bH n P).1.calls<=c.d.calls+4*P.length+3/\
   (∀(j:Nat) (x:Int),(Rt.dv P)[j]?=some x->bs (c.bH n P).1 n x=(⟨x,c.ep+1,1,eO (Rt.jb (Rt.ie c.table j)) 232⟩,0))/\
   (∀x:Nat,x<ct n->(x:Int)∉Rt.dv P->bs (c.bH n P).1 n x=bs c.d n x)/\
   sec (c.bH n P).1.now c.slot.toNat=sec c.d.now c.slot.toNat/\sec (c.bH n P).1.now (1-c.slot).toNat=Rt.eV (c.ep+1) c.table.length P/\∀j,(c.bH n P).1.loose.getD j false=false:=by
 obtain⟨h1,h2,h3,h4,h6,h7,h8⟩:=CY hd ha fT hP hr he (Rt.dv P).length (Nat.le_refl _);have eL:(Rt.dv P).length=P.length:=by simp[Rt.dv]
 rw[eL]at h1 h2 h3 h4 h6 h7 h8;obtain⟨d1,uS⟩:∃d1,(c.gE n (Rt.dv P) P.length)=(d1,0):=⟨_,by rw[<-h1]⟩;unfold C.bH;rw[uS]at h1 h2 h3 h4 h6 h7 h8 ⊢;dsimp only at h1 h2 h3 h4 h6 h7 h8 ⊢;obtain⟨s1,s2,s3,s4⟩:=nE h2 h3;have s5:=(zH d1 (by rw[h3];omega)).1;have s6:d1.eh.1.Ok n:=h4.sync;have s7:=sK s1;rw[if_neg (by decide),if_neg (by rw[s1];decide)];generalize d1.eh.1=d2 at *;have Qm:(1-c.slot).toNat<n:=by omega
 have Ta:(1-c.slot:Int)=(((1-c.slot).toNat:Nat):Int):=by omega
 rw[Ta,show((((1-c.slot).toNat:Nat):Int)).toNat=(1-c.slot).toNat by omega];obtain⟨s,hsd⟩:∃s,s=(1-c.slot).toNat:=⟨_,rfl⟩;rw[<-hsd]at Qm ⊢;have Qn:=Rt.ud (c.ep+1) c.table.length P h5;obtain⟨w1,w2,w3⟩:=iB (n:=n) s2 s3 Qm (Rt.eV (c.ep+1) c.table.length P);have w4:=qT s6 s Qm _ w1;have w5:=(iR d2 n s (Rt.eV (c.ep+1) c.table.length P) (by rw[s3];omega)).1;have w6:=s6.write (s:Int) (Rt.eV (c.ep+1) c.table.length P)
 rw[if_neg (by rw[w1];decide)];generalize (d2.aA n (s:Int) (Rt.eV (c.ep+1) c.table.length P)).1=d3 at *;obtain⟨v1,v2,v3,v4⟩:=nE w2 w3;have v5:=(zH d3 (by rw[w3];omega)).1;have v6:=w6.sync;have v7:=sK v1;have hpage:∀x:Nat,x<ct n->bs d3.eh.1 n x=bs d1 n x:=λx hx=>vI (by rw[v2,h2]) x hx (λj a b=>by
  have:=Fq hx;rw[v4,w4 j (by omega),if_neg (by omega),s4])
 refine⟨v1,v2,v3,v6,by omega,λj x hx=>?_,λx hx hn=>?_,?_,?_,v7⟩
 .obtain⟨k,rfl,hk⟩:=hr x (ay hx);rw[hpage k hk];exact h7 j _ (by have:=(aM.1 hx).1;omega) hx
 .rw[hpage x hx];exact vI (by rw[h2,hd]) x hx (λj a b=>(h8 j (by have:=Fq hx;omega) (λ⟨y,hy,c1,c2⟩=>hn (by
   obtain rfl:y=x:=by omega
   exact hy))).1)
 .rw[v4,w4 _ (by omega),if_neg (by omega),s4];exact(h8 _ (by omega) (λ⟨y,hy,c1,c2⟩=>by omega)).1
 .rw[v4,w4 _ (by omega),if_pos rfl,fill64 Qn]
variable{P:List Int}{ep:Int}{k n:Nat}
theorem C9(h:∀x∈P,0<=x):Rt.dv (P.map Int.toNat)=P:=by
 unfold Rt.dv;rw[jR];exact(gx (λx hx=>by have:=h x hx;exact Int.toNat_of_nonneg this)).trans (List.map_id _)
theorem Hn(c:C)(n:Nat):∀k,k<=c.table.length->jL (c.bP n).now k=kn c.table k
 |0,_=>rfl
 |k+1,h=>by
  unfold jL;rw[mz,Hn c n k (by omega)];have e:((c.bP n).now[k]?).getD none=c.cK n (c.table.getD k 0):=by
   unfold C.bP;rw[ic];simp only[List.getD];rw[aG (by omega)];rfl
  rw[e];unfold C.cK
  by_cases hx:c.table.getD k 0<0
  .rw[if_pos hx,if_pos hx,if_neg (by simp)]
  .rw[if_neg hx,if_neg hx,if_pos (by simp)]
theorem zM(c:C)(n:Nat):(c.bP n).dH=c.cd.table.map (λx=>if x<0 then none else some (bs c.d n x).1.s):=by
 unfold St.dH;have hl:(c.bP n).now.length=c.table.length:=by unfold C.bP;simp
 rw[hl,Hn c n _ (Nat.le_refl _)];show((c.table.map (c.cK n)).take _).map _=(c.table.take _).map _;rw[<-lU,jR];refine gx (λx _=>?_);simp only[Function.comp,C.cK]
 split<;>rfl
theorem Da(h:P.Nodup):BJ P:=λ_ _ _ hi hj _=>vK h hi hj
theorem vL(h:BJ P)(h0:∀x∈P,0<=x):P.Nodup:=by
 have:=jH h
 rwa [show ids P=P from vd.2 (λx hx=>by simpa using h0 x hx)]at this
theorem Uo(he:0<=ep/\ep<1099511627776)(hk:k<=512)(hl:P.length=cB k)(hn:P.Nodup)(hr:∀x∈P,0<=x/\x<=1023):Rt.iC (ep+1) (k:Nat) P:=by
 refine⟨by omega,by omega,by omega,by omega,by rw[hl,NZ],λi x hx=>?_⟩;obtain⟨h0,h1⟩:=hr x (ay hx);refine⟨h0,h1,λhm=>?_⟩;obtain⟨j,hj⟩:=kr hm;have PU:=(aM.1 hj).1;rw[bK]at PU;have:=Da hn j i x (uf hj) hx h0;omega
theorem oJ{c:C}(g:Good c n)(tl:c.table.length<=512)(hf:cB c.cd.table.length<=(Fm.gu c.m 0).length):
  ∃mT P,takeN c.m (cB c.cd.table.length)=(mT,P)/\mT.length=c.m.length/\P.Nodup/\P.length=cB c.cd.table.length/\(∀x∈P,∃i:Nat,x=i/\i<c.m.length/\i<=1023/\x∉c.parts/\x∉c.bQ/\x∉c.table)/\
   (∀i:Nat,i<c.m.length->mT.getD i 0=if(i:Int)∈P then 2 else cC c i)/\Rt.dv (P.map Int.toNat)=P/\Rt.iC (c.ep+1) (c.cd.table.length:Nat) P:=by
 obtain⟨h1,h2,h3,h4⟩:=zL c.m _ hf;have hl:=qY c.m (cB c.cd.table.length);have hm:c.m.length<=1024:=by rw[g.ml];unfold eY;omega
 have hb:∀x∈(takeN c.m (cB c.cd.table.length)).2,∃i:Nat,x=i/\i<c.m.length/\i<=1023/\x∉c.parts/\x∉c.bQ/\x∉c.table:=λx hx=>by
  obtain⟨i,rfl,hi,h0⟩:=h3 x hx;rw[g.md i hi]at h0;obtain⟨z1,z2,z3⟩:=G7 h0;exact⟨i,rfl,hi,by omega,z1,z2,z3⟩
 have h0:∀x∈(takeN c.m (cB c.cd.table.length)).2,0<=x/\x<=1023:=λx hx=>by
  obtain⟨i,rfl,hi,N4,_⟩:=hb x hx;omega
 have ht:c.cd.table.length<=512:=by
  show(c.table.take _).length<=512;rw[bK];omega
 have Gn:=g.ep;exact⟨_,_,rfl,h1,h2,hl,hb,λi hi=>by rw[h4 i hi,g.md i hi],C9 (λx hx=>(h0 x hx).1),Uo (by omega) ht hl h2 h0⟩
theorem sL{d:D}{slot:Int}{bQ parts:List Int}(R:iG d n ep slot bQ parts):Rt.dv (parts.map Int.toNat)=parts:=C9 (λx hx=>by
 obtain⟨i,hi⟩:=kr hx;exact(R.ro.2.2.2.2.2 i x hi).1)
theorem vM(hr:Rt.iC ep (k:Nat) P)(hP:Rt.dv (P.map Int.toNat)=P):(Rt.eV ep k (P.map Int.toNat)).take 8=(Rt.eV ep k (P.map Int.toNat)).drop 56/\Rt.pU (Rt.eV ep k (P.map Int.toNat))=ep:=by
 have h5:(P.map Int.toNat).length<=5:=by have:=Rt.kF hr;simpa using this
 exact⟨by rw[Rt.zF,Rt.Lc _ _ _ h5],(Rt.Ub ep k _ (by rw[hP];exact hr)).1⟩
def C.zN(c:C)(d:D)(mT P:List Int):C:={c.cd with m:=Fm.ja 0 1 (cv mT c.parts),d:=d,bQ:=c.cd.table,parts:=P,ep:=c.ep+1,slot:=1-c.slot}
theorem Hp{c:C}(g:Good c n)(hf:(c.bP n).free<cB (c.bP n).dH.length):c.aE n=(c.cd,11):=by
 unfold C.aE;rw[(my g).1,if_pos (by rw[zM]at hf;simpa using hf)]
theorem Qo{c:C}(g:Good c n)(R:iG c.d n c.ep c.slot c.bQ c.parts)(he:c.ep<1099511627775)(tl:c.table.length<=512){mT:List Int}(hT:takeN c.m (cB c.cd.table.length)=(mT,P))(hf:cB c.cd.table.length<=(Fm.gu c.m 0).length)
 {d':D}(hd:d'=(({c.cd with m:=mT}:C).bH n (P.map Int.toNat)).1):
  (({c.cd with m:=mT}:C).bH n (P.map Int.toNat)).2=0/\Good (c.zN d' mT P) n/\iG d' n (c.ep+1) (1-c.slot) c.cd.table P/\Twin d' (1-c.slot) (c.ep+1)/\d'.calls<=c.d.calls+30/\
   (c.zN d' mT P).bP n={c.bP n with now:=gl (c.bP n).dH,bQ:=(c.bP n).dH,ep:=(c.bP n).ep+1}:=by
 obtain⟨mT',P',e,t1,t2,t3,t4,t5,t6,t7⟩:=oJ g tl hf;rw[hT]at e;obtain⟨rfl,rfl⟩:mT=mT'/\P=P':=⟨congrArg Prod.fst e,congrArg Prod.snd e⟩;clear e;have Gn:=g.ep;have n2:=R.n2;have h5:P.length<=5:=Rt.kF t7;obtain⟨f1,f2,f3,f4,f5,f6,f7,f8,f9,f10⟩:=Ql (c:={c.cd with m:=mT}) (n:=n) (P:=P.map Int.toNat) g.up g.arm g.ok (by rw[t6];exact t2) (λx hx=>by
  rw[t6]at hx;obtain⟨i,e,hi,_⟩:=t4 x hx;exact⟨i,e,jI g hi⟩) (show 0<=c.ep/\c.ep<1099511627776 by omega) n2 g.sl (by rw[eM];exact h5)
 rw[<-hd]at f2 f3 f4 f5 f6 f7 f8 f9 f10;rw[t6]at f6 f7;rw[eM]at f5;refine⟨f1,?_,?_,?_,by have:d'.calls<=c.d.calls+4*P.length+3:=f5;omega,?_⟩
 .have gt:=(CU g).1;have hsame:∀x:Int,x∈c.table->0<=x->bs d' n x=bs c.d n x:=λx hx h0=>by
   have hti:=g.ti x hx;have:=f7 x.toNat (jI g (by omega)) (λhm=>by
    rw[show((x.toNat:Nat):Int)=x by omega]at hm;obtain⟨_,_,_,_,_,_,h⟩:=t4 x hm;exact h hx)
   rwa [show((x.toNat:Nat):Int)=x by omega]at this
  obtain⟨v1,v2⟩:=nj c.parts mT (vL g.pj (λx hx=>(g.pi x hx).1)) (λx hx=>by
   have:=g.pi x hx;refine⟨x.toNat,by omega,by omega,?_⟩;rw[t5 x.toNat (by omega),show((x.toNat:Nat):Int)=x by omega,if_neg (λhm=>by
    obtain⟨_,_,_,_,h,_⟩:=t4 x hm;exact h hx)]
   unfold cC;rw[if_pos hx])
  have nX:(c.zN d' mT P).m.length=c.m.length:=by
   show(Fm.ja 0 1 (cv mT c.parts)).length=_;rw[Fm.ua,v1,t1]
  refine⟨f2,f3,g.br,f4,nX.trans g.ml,(by show 1<=c.ep+1/\c.ep+1<1099511627776;omega),(by show 1-c.slot=0\/1-c.slot=1;have:=g.sl;omega),by rw[nX];exact gt.ti,by rw[nX];exact gt.ti,λx hx=>?_,gt.tj,gt.tj,Da t2,λx hx=>?_,t3,λi x hi _ _=>hi,λi hi=>?_,λx hx h0=>?_,λx hx h0=>?_⟩
  .obtain⟨i,rfl,hi,_⟩:=t4 x hx;rw[nX];omega
  .obtain⟨_,_,_,_,_,_,h⟩:=t4 x hx;exact⟨λhm=>h (gM hm),λhm=>h (gM hm)⟩
  .rw[nX]at hi;show(Fm.ja 0 1 (cv mT c.parts)).getD i 0=_;rw[Hj _ _ _ _ (by omega),v2 i (by omega),t5 i hi];have hk:cC (c.zN d' mT P) i=if(i:Int)∈P then 1 else if(i:Int)∈c.cd.table then 1 else 0:=by
    show(if(i:Int)∈P then 1 else if(i:Int)∈c.cd.table then(if(i:Int)∈c.cd.table then 1 else 3)else if(i:Int)∈c.cd.table then 2 else 0:Int)=_
    by_cases h1:(i:Int)∈P
    .rw[if_pos h1,if_pos h1]
    .by_cases h2:(i:Int)∈c.cd.table
     .simp only[h1,h2,if_true,if_false]
     .simp only[h1,h2,if_false]
   rw[hk];have hmt:(i:Int)∈c.cd.table↔(i:Int)∈c.table:=Hm (by omega);simp only[hmt]
   by_cases hp:(i:Int)∈c.parts
   .rw[if_pos hp,if_neg (λhm=>by
     obtain⟨_,_,_,_,h,_⟩:=t4 _ hm;exact h hp),if_neg (g.dt _ hp).1]
    rfl
   .rw[if_neg hp]
    by_cases hP:(i:Int)∈P
    .rw[if_pos hP,if_pos hP];rfl
    .rw[if_neg hP,if_neg hP];unfold cC;rw[if_neg hp]
     by_cases h1:(i:Int)∈c.bQ<;>by_cases h2:(i:Int)∈c.table<;>simp only[h1,h2,if_true,if_false]<;>rfl
  .have hx:=gM hx;obtain⟨q,s,q1,q2,q3,q4⟩:=g.rt x hx h0;exact⟨q,s,q1,by show q<=c.ep+1+1;omega,q3,(hsame x hx h0).trans q4⟩
  .have hx:=gM hx;obtain⟨q,s,q1,q2,q3,q4⟩:=g.rt x hx h0;exact⟨q,s,q1,q2,q3,(hsame x hx h0).trans q4⟩
 .refine⟨n2,t7,by have:=g.sl;omega,f9,λ_=>?_,λi x hx=>?_,λj _ _=>f10 j⟩
  .rw[show(1-(1-c.slot)).toNat=c.slot.toNat by congr 1;omega];show Rt.pU (sec d'.now c.slot.toNat)<_;have f8':sec d'.now c.slot.toNat=sec c.d.now c.slot.toNat:=f8;rw[f8',R.rt,(vM R.ro (sL R)).2];omega
  .refine⟨c.ep+1,by omega,jg _,?_⟩;rw[upD_eq f2];exact f6 i x hx
 .unfold Twin;rw[show(1-(1-c.slot)).toNat=c.slot.toNat by congr 1;omega];have f8':sec d'.now c.slot.toNat=sec c.d.now c.slot.toNat:=f8;rw[f8',R.rt,(vM R.ro (sL R)).2];exact⟨(vM R.ro (sL R)).1,by omega⟩
 .obtain⟨v1,_⟩:=nj c.parts mT (vL g.pj (λx hx=>(g.pi x hx).1)) (λx hx=>by
   have:=g.pi x hx;refine⟨x.toNat,by omega,by omega,?_⟩;rw[t5 x.toNat (by omega),show((x.toNat:Nat):Int)=x by omega,if_neg (λhm=>by
    obtain⟨_,_,_,_,h,_⟩:=t4 x hm;exact h hx)]
   unfold cC;rw[if_pos hx])
  have nX:(c.zN d' mT P).m.length=c.m.length:=by
   show(Fm.ja 0 1 (cv mT c.parts)).length=_;rw[Fm.ua,v1,t1]
  have hs:∀x∈c.cd.table,¬x<0->(bs d' n x).1.s=(bs c.d n x).1.s:=λx hx h0=>by
   have hx:=gM hx;have hti:=g.ti x hx;have:=f7 x.toNat (jI g (by omega)) (λhm=>by
    rw[show((x.toNat:Nat):Int)=x by omega]at hm;obtain⟨_,_,_,_,_,_,h⟩:=t4 x hm;exact h hx)
   rw[show((x.toNat:Nat):Int)=x by omega]at this;rw[this];rfl
  rw[zM];unfold C.bP;rw[nX];simp only[St.mk.injEq,true_and];refine⟨?_,?_,rfl⟩
  .show c.cd.table.map (C.cK (c.zN d' mT P) n)=gl (c.cd.table.map _);unfold gl;rw[jR];refine gx (λx hx=>?_);unfold C.cK;simp only[Function.comp]
   by_cases h:x<0
   .rw[if_pos h,if_pos h];rfl
   .rw[if_neg h,if_neg h];show some (decide (x∉c.cd.table),(bs d' n x).1.s)=some (false,(bs c.d n x).1.s);rw[hs x hx h];simp[hx]
  .show c.cd.table.map _=c.cd.table.map _;refine gx (λx hx=>?_)
   by_cases h:x<0
   .rw[if_pos h,if_pos h]
   .rw[if_neg h,if_neg h];show some (bs d' n x).1.s=_;rw[hs x hx h]
theorem Hr{c:C}(g:Good c n)(R:iG c.d n c.ep c.slot c.bQ c.parts)(he:c.ep<1099511627775)(tl:c.table.length<=512)(hf:¬(c.bP n).free<cB (c.bP n).dH.length):
  ∃c',c.aE n=(c',0)/\Good c' n/\iG c'.d n c'.ep c'.slot c'.bQ c'.parts/\Twin c'.d c'.slot c'.ep/\c'.d.calls<=c.d.calls+30/\c'.bP n={c.bP n with now:=gl (c.bP n).dH,bQ:=(c.bP n).dH,ep:=(c.bP n).ep+1}/\c'.table=c.cd.table/\c'.ep=c.ep+1:=by
 have Ch:¬(Fm.gu c.m 0).length<cB c.cd.table.length:=by rw[(my g).1];rw[zM]at hf;simpa using hf
 obtain⟨mT,P,hT,_⟩:=oJ g tl (by omega);obtain⟨h1,h2,h3,h4,h5,h6⟩:=Qo g R he tl hT (by omega) rfl;refine⟨c.zN _ mT P,?_,h2,h3,h4,h5,h6,rfl,rfl⟩;unfold C.aE;rw[if_neg Ch,if_neg (by omega),hT];dsimp only;rw[if_neg (by rw[h1];decide)];rfl
theorem pX(b:St):b.pad 0=b:=by unfold St.pad;simp
theorem pad_pad(b:St)(j k:Nat):(b.pad j).pad k=b.pad (j+k):=by unfold St.pad;simp[cy,List.replicate_append_replicate]
theorem ug{α:Type}(l:List (Option α))(k i:Nat):((l++List.replicate k none)[i]?).getD none=(l[i]?).getD none:=by
 by_cases h:i<l.length
 .rw[bE h]
 .rw[dR (by omega),fG (l:=l) (by omega),Ej]
  split<;>rfl
theorem Lr(b:St)(k:Nat)(l:Int):(b.pad k).at l=b.at l:=by
 unfold St.at;show(if 0<=l then((b.now++List.replicate k none)[l.toNat]?).getD none else none)=_;rw[ug]
theorem Qp(b:St)(k:Nat):(b.pad k).fresh=b.fresh:=by
 unfold St.fresh;show(b.now++List.replicate k none).countP cJ=_;rw[nY,List.countP_replicate];simp[cJ]
theorem Up(b:St)(k:Nat):(b.pad k).kept=b.kept:=rfl
theorem zO(b:St)(k:Nat):(b.pad k).free=b.free:=by
 unfold St.free;rw[Qp,Up];rfl
theorem Uq(b:St)(k:Nat):(b.pad k).slot=b.slot:=by
 unfold St.slot;show(b.now++List.replicate k none).findIdx Option.isNone=_;rw[List.findIdx_append]
 split
 .rfl
 .rename_i h;have h1:b.now.findIdx Option.isNone=b.now.length:=by
   have:=n7 (xs:=b.now) (p:=Option.isNone);omega
  cases k with
  |zero=>simp[h1]
  |succ k=>simp[List.replicate_succ,JS,h1]
theorem Fu{α:Type}(l:List (Option α))(k i:Nat)(u:Option α)(h:i<l.length):(l++List.replicate k none).set i u=l.set i u++List.replicate k none:=yr _ _ h
theorem pad_new(b:St)(k:Nat)(p:List UInt8):∃k',(b.pad k).bJ p=((b.bJ p).1.pad k',(b.bJ p).2):=by
 unfold St.bJ;rw[Uq,zO]
 by_cases h1:232<p.length
 .rw[if_pos h1,if_pos h1];exact⟨k,rfl⟩
 rw[if_neg h1,if_neg h1]
 by_cases h2:512<=b.slot\/b.free=0
 .rw[if_pos h2,if_pos h2];exact⟨k,rfl⟩
 rw[if_neg h2,if_neg h2];have hs:b.slot<=b.now.length:=n7
 by_cases h3:b.slot=b.now.length
 .cases k with
  |zero=>exact⟨0,by rw[pX,pX]⟩
  |succ k=>
   refine⟨k,?_⟩;unfold St.pad;simp only[Prod.mk.injEq,St.mk.injEq,true_and,and_true];unfold nF;rw[if_neg (by simp;omega),if_pos h3,h3,qN _ _ (Nat.le_refl _),fM,List.replicate_succ];simp
 .refine⟨k,?_⟩;unfold St.pad;simp only[Prod.mk.injEq,St.mk.injEq,true_and,and_true];unfold nF;rw[if_neg (by simp;omega),if_neg h3,Fu _ _ _ _ (by omega)]
theorem zP{b:St}{l:Int}(h:(b.at l).isSome=true):0<=l/\l.toNat<b.now.length:=by
 unfold St.at at h
 by_cases h0:0<=l
 .rw[if_pos h0]at h;refine⟨h0,Nat.lt_of_not_le (λhle=>?_)⟩;rw[fG hle]at h;simp at h
 .rw[if_neg h0]at h;simp at h
theorem Qq(b:St)(k:Nat)(l:Int)(p:List UInt8):(b.pad k).aA l p=((b.aA l p).1.pad k,(b.aA l p).2):=by
 unfold St.aA;rw[Lr,zO]
 by_cases h1:232<p.length
 .rw[if_pos h1,if_pos h1]
 rw[if_neg h1,if_neg h1]
 by_cases h2:¬(b.at l).isSome=true
 .rw[if_pos h2,if_pos h2]
 rw[if_neg h2,if_neg h2]
 by_cases h3:cJ (b.at l)=false/\b.free=0
 .rw[if_pos h3,if_pos h3]
 rw[if_neg h3,if_neg h3];unfold St.pad;simp only[Prod.mk.injEq,St.mk.injEq,true_and,and_true];exact Fu _ _ _ _ (zP (Decidable.not_not.1 h2)).2
theorem Ur(b:St)(k:Nat)(l:Int):(b.pad k).aR l=((b.aR l).1.pad k,(b.aR l).2):=by
 unfold St.aR;rw[Lr]
 by_cases h2:(b.at l).isSome=true
 .rw[if_pos h2,if_pos h2];unfold St.pad;simp only[Prod.mk.injEq,St.mk.injEq,true_and,and_true];exact Fu _ _ _ _ (zP h2).2
 .rw[if_neg h2,if_neg h2]
theorem Lt(l:List rN)(k:Nat):jL l (k+1)=if((l[k]?).getD none).isSome then k+1 else jL l k:=rfl
theorem Qr{α:Type}(f:List (Option (Bool×List UInt8))->α)(l:List rN)(k:Nat):jL (l++List.replicate k none) (l.length+k)=jL l l.length:=by
 have h1:∀j,j<=l.length->jL (l++List.replicate k none) j=jL l j:=by
  intro j
  induction j with
  |zero=>intro _;rfl
  |succ j ih=>
   intro hj;unfold jL;rw[ug,ih (by omega)]
 have h2:∀j,jL (l++List.replicate k none) (l.length+j)=jL (l++List.replicate k none) l.length:=by
  intro j
  induction j with
  |zero=>rfl
  |succ j ih=>
   rw[show l.length+(j+1)=(l.length+j)+1 by omega,Lt,ug,fG (by omega),if_neg (by simp)];exact ih
 rw[h2,h1 _ (Nat.le_refl _)]
theorem Us(b:St)(k:Nat):(b.pad k).dH=b.dH:=by
 unfold St.dH;show((b.now++List.replicate k none).take (jL (b.now++List.replicate k none) (b.now++List.replicate k none).length)).map _=_;have hl:(b.now++List.replicate k (none:rN)).length=b.now.length+k:=by simp
 have h2:=Qr (λx=>x) b.now k;rw[hl,h2];have:=Hi b.now b.now.length;rw[kX this]
variable{c:C}{n:Nat}
theorem Qs(l:List rN)(k:Nat):sJ l (k+1)=sJ l k++if((l[k]?).getD none).isSome then [(k:Int)]else []:=rfl
theorem pad_pgs(l:List rN)(k:Nat):sJ (l++List.replicate k none) (l.length+k)=sJ l l.length:=by
 have h1:∀j,j<=l.length->sJ (l++List.replicate k none) j=sJ l j:=by
  intro j
  induction j with
  |zero=>intro _;rfl
  |succ j ih=>
   intro hj;unfold sJ;rw[ug,ih (by omega)]
 have h2:∀j,sJ (l++List.replicate k none) (l.length+j)=sJ (l++List.replicate k none) l.length:=by
  intro j
  induction j with
  |zero=>rfl
  |succ j ih=>
   rw[show l.length+(j+1)=(l.length+j)+1 by omega,Qs,ug,fG (by omega),ih];simp
 rw[h2,h1 _ (Nat.le_refl _)]
theorem Hs(g:Good c n):∀k,k<=c.bQ.length->Fp (c.bP n).now (gl (c.bP n).bQ) k=(c.bQ.take k).countP (λx=>decide (0<=x) && decide (x∉c.table))
 |0,_=>rfl
 |k+1,h=>by
  have ih:=Hs g k (by omega);obtain⟨x,hx⟩:∃x,c.bQ[k]?=some x:=⟨_,aG (by omega)⟩;have hxk:c.bQ[k]=x:=(aM.1 hx).2;unfold Fp;rw[ih,gy (by omega),nY,hxk,JN]
  congr 1
  have e1:((gl (c.bP n).bQ)[k]?).getD none=if x<0 then none else some (false,(bs c.d n x).1.s):=by
   unfold gl C.bP;simp only[ic,hx,k6,iM]
   split<;>rfl
  have e2:((c.bP n).now[k]?).getD none=((c.table[k]?).map (c.cK n)).getD none:=by
   unfold C.bP;rw[ic]
  have key:Uk (c.bP n).now (gl (c.bP n).bQ) k=(decide (0<=x) && decide (x∉c.table)):=by
   unfold Uk;rw[e1,e2]
   by_cases h0:x<0
   .rw[if_pos h0];simp;omega
   .rw[if_neg h0];simp only[Option.isSome_some,JH];rw[show decide (0<=x)=true by simpa using (show 0<=x by omega),JH]
    by_cases ht:x∈c.table
    .obtain⟨j,hj⟩:=kr ht;have:=g.sm j x hj (by omega) (ay hx);have hjk:=g.oj j k x this hx (by omega);subst hjk;rw[hj];simp[C.cK,h0,cJ,ay hx,ht]
    .simp only[ht,not_false_eq_true,decide_true]
     cases hk:c.table[k]? with
     |none=>simp
     |some y=>
      by_cases hy:y<0
      .simp[C.cK,hy]
      .by_cases hyo:y∈c.bQ
       .have:=g.sm k y hk (by omega) hyo;rw[hx]at this;injection this with this
        subst this;exact absurd (ay hk) ht
       .simp[C.cK,hy,cJ,hyo]
  rw[key]
theorem counts(g:Good c n):(Fm.gu c.m 0).length=(c.bP n).free/\(Fm.gu c.m 2).length=(c.bP n).fresh/\(Fm.gu c.m 1).length+(Fm.gu c.m 3).length=(c.bP n).kept/\(Fm.gu c.m 3).length=(c.bP n).leaving:=by
 have hp:c.parts.Nodup:=vL g.pj (λx hx=>(g.pi x hx).1);refine⟨(my g).1,?_,?_,?_⟩
 .have hFl:((ids c.table).filter (λx=>decide (x∉c.bQ))).length=(c.bP n).fresh:=by
   unfold St.fresh C.bP ids;rw[Eh,<-yT,Ed];apply sk;intro x hx;simp only[Function.comp,C.cK]
   by_cases h:x<0
   .rw[if_pos h];simp[cJ];omega
   .rw[if_neg h];simp[cJ];omega
  rw[<-hFl];refine pR (jG _ _) ((jH g.tj).sublist Ei) (λx=>?_);rw[fU,ij,k7]
  constructor
  .rintro⟨i,rfl,hi,h0⟩;rw[g.md i hi]at h0;unfold cC at h0
   split at h0
   .omega
   .split at h0
    .split at h0<;>omega
    .split at h0
     .exact⟨⟨by assumption,by omega⟩,by simpa⟩
     .omega
  .rintro⟨⟨ht,h0⟩,ho⟩;have ho:x∉c.bQ:=by simpa using ho
   have:=g.ti x ht;refine⟨x.toNat,by omega,by omega,?_⟩;rw[g.md _ (by omega),show((x.toNat:Nat):Int)=x by omega];unfold cC;rw[if_neg (λh=>(g.dt x h).1 ht),if_neg ho,if_pos ht]
 .have hKl:(c.parts++ids c.bQ).length=(c.bP n).kept:=by
   unfold St.kept C.bP ids;rw[aO,g.pl,<-yT,Ed,eM];have:c.bQ.countP (λx=>decide (0<=x))=c.bQ.countP (Option.isSome ∘ λx=>if x<0 then none else some (bs c.d n x).1.s):=by
    apply sk;intro x hx;simp only[Function.comp]
    by_cases h:x<0
    .rw[if_pos h];simp;omega
    .rw[if_neg h];simp;omega
   omega
  rw[<-hKl,<-aO];refine pR ?_ ?_ (λx=>?_)
  .rw[ik];refine⟨jG _ _,jG _ _,λa ha b hb e=>?_⟩;subst e;obtain⟨i,rfl,hi,h0⟩:=fU.1 ha;obtain⟨j,e,hj,h1⟩:=fU.1 hb;obtain rfl:i=j:=by omega
   omega
  .rw[ik];refine⟨hp,jH g.oj,λa ha b hb e=>?_⟩;subst e;exact(g.dt a ha).2 (k7.1 hb).1
  .rw[aB,aB,fU,fU,k7]
   constructor
   .rintro(⟨i,rfl,hi,h0⟩|⟨i,rfl,hi,h0⟩)
    .rw[g.md i hi]at h0;unfold cC at h0
     by_cases h1:(i:Int)∈c.parts
     .exact .inl h1
     .rw[if_neg h1]at h0
      by_cases h2:(i:Int)∈c.bQ
      .exact .inr ⟨h2,by omega⟩
      .rw[if_neg h2]at h0
       split at h0<;>omega
    .rw[g.md i hi]at h0;unfold cC at h0
     by_cases h1:(i:Int)∈c.parts
     .exact .inl h1
     .rw[if_neg h1]at h0
      by_cases h2:(i:Int)∈c.bQ
      .exact .inr ⟨h2,by omega⟩
      .rw[if_neg h2]at h0
       split at h0<;>omega
   .rintro(h1|⟨h1,h0⟩)
    .have:=g.pi x h1;refine .inl ⟨x.toNat,by omega,by omega,?_⟩;rw[g.md _ (by omega),show((x.toNat:Nat):Int)=x by omega];unfold cC;rw[if_pos h1]
    .have:=g.oi x h1
     by_cases ht:x∈c.table
     .refine .inl ⟨x.toNat,by omega,by omega,?_⟩;rw[g.md _ (by omega),show((x.toNat:Nat):Int)=x by omega];unfold cC;rw[if_neg (λh=>(g.dt x h).2 h1),if_pos h1,if_pos ht]
     .refine .inr ⟨x.toNat,by omega,by omega,?_⟩;rw[g.md _ (by omega),show((x.toNat:Nat):Int)=x by omega];unfold cC;rw[if_neg (λh=>(g.dt x h).2 h1),if_pos h1,if_neg ht]
 .have hl:(c.bP n).leaving=((ids c.bQ).filter (λx=>decide (x∉c.table))).length:=by
   have hol:(c.bP n).bQ.length=c.bQ.length:=by unfold C.bP;simp
   unfold St.leaving;rw[hol,Hs g _ (Nat.le_refl _),fL];unfold ids;rw[Eh,<-yT];apply sk;intro x _;simp[and_comm]
  rw[hl];refine pR (jG _ _) ((jH g.oj).sublist Ei) (λx=>?_);rw[fU,ij,k7]
  constructor
  .rintro⟨i,rfl,hi,h0⟩;rw[g.md i hi]at h0;unfold cC at h0
   split at h0
   .omega
   .split at h0
    .split at h0
     .omega
     .exact⟨⟨by assumption,by omega⟩,by simpa⟩
    .split at h0<;>omega
  .rintro⟨⟨ht,h0⟩,ho⟩;have ho:x∉c.table:=by simpa using ho
   have:=g.oi x ht;refine⟨x.toNat,by omega,by omega,?_⟩;rw[g.md _ (by omega),show((x.toNat:Nat):Int)=x by omega];unfold cC;rw[if_neg (λh=>(g.dt x h).2 ht),if_pos ht,if_neg ho]
open Go.RowKit
variable{i d n:Nat}{v:Value}{w:World}{rs:List Nat}
section
variable{P:Program}{ops:Array Oper}{Q:Exit->Act->World->Prop}{md:Region.Mode}{S:World->Prop}{L:List Nat}
def Lu(P:Program)(md:Region.Mode)(ops:Array Oper)(Q:Exit->Act->World->Prop)(S:World->Prop)(L:List Nat):Nat->Array Bool->Act->World->Prop
 |0,c,a,w=>Region.ready md ops c=[]/\Q .normal a w
 |n+1,c,a,w=>(Region.ready md ops c=[]->Q .normal a w)/\∀i∈Region.ready md ops c,wpOp P ops Q i (λa' w'=>(i∉L->S w->S w')/\Lu P md ops Q S L n (c.setIfInBounds i true) a' w') a w
theorem N7:∀(n:Nat) (c:Array Bool) (a:Act) (w:World),Lu P md ops Q S L n c a w->wpAny P md ops Q n c a w
 |0,_,_,_,h=>h
 |n+1,_,_,_,h=>⟨h.1,λi hi=>wpOp_mono (λa' w' x=>N7 n _ a' w' x.2) (h.2 i hi)⟩
def Fv(md:Region.Mode)(ops:Array Oper)(L i:Nat):Bool:=match ops[L]? with|some o=>o.after.any λe=>Region.binds md e && e.on==i|none=>false
theorem Lv{L:Nat}(h:Fv md ops L i=true):∃o e,ops[L]?=some o/\e∈o.after/\Region.binds md e=true/\e.on=i:=by
 unfold Fv at h
 cases ho:ops[L]? with
 |none=>rw[ho]at h;cases h
 |some o=>
  rw[ho]at h;rw[Array.any_eq_true']at h;obtain⟨e,he,hb⟩:=h;rw[ig,beq_iff_eq]at hb;exact⟨o,e,rfl,he,hb.1,hb.2⟩
theorem vN{oi:Oper}(hi:ops[i]?=some oi)(hsel:∀(j:Nat) (o:Oper) cs b,ops[j]?=some o->o.op≠ .select cs b)
 (hQ:∀c a w,Q (.panic c) (a.put oi.dst v) w->Q (.panic c) a w){S2:World->Prop}(hL:(∀w,S2 w)\/(S2=S/\∀k∈L,Fv md ops k i=true)):∀(n:Nat) (c:Array Bool) (a:Act) (w:World),
  (∀j oj,ops[j]?=some oj->j≠i->c.getD j true=false->(∀e∈oj.after,Region.binds md e=true->e.on≠i)->oi.apart ops oj=true)->
  i∈Region.ready md ops c->YieldsIf P ops S2 oi v a->S2 w->Lu P md ops Q S L n (c.setIfInBounds i true) (a.put oi.dst v) w->Lu P md ops Q S L (n+1) c a w
 |0,c,a,w,_,hr,hy,hS,H=>by
  refine⟨λh=>(by rw[h]at hr;cases hr),λj hj=>?_⟩
  by_cases PU:j=i
  .subst PU;exact hy.wpOp hi hS ⟨λ_ h=>h,H⟩
  .have:=ready_mono hj PU;rw[H.1]at this
   cases this
 |n+1,c,a,w,hfree,hr,hy,hS,H=>by
  refine⟨λh=>(by rw[h]at hr;cases hr),λj hj=>?_⟩
  by_cases PU:j=i
  .subst PU;exact hy.wpOp hi hS ⟨λ_ h=>h,H⟩
  .obtain⟨hun,oj,hoj,nm⟩:=mem_ready.1 hj;have hnot:∀e∈oj.after,Region.binds md e=true->e.on≠i:=λe he hb heq=>by
    have h1:=nm e he hb;have h0:=(mem_ready.1 hr).1;rw[heq]at h1
    rcases dX i c.size with h'|h'
    .simp[h']at h0 h1;rw[h0]at h1;cases h1
    .simp[Sj h']at h1
   refine wpOp_mono (λa' w' x=>?_) (wpOp_putIf hoj (hfree j oj hoj PU hun hnot) (λcs b=>hsel i oi cs b hi) (λcs b=>hsel j oj cs b hoj) hQ hy (H.2 j (ready_mono hj PU)));obtain⟨x1,x2,x3⟩:=x;have h2:S2 w':=by
    rcases hL with h|⟨rfl,h⟩
    .exact h w'
    .refine x2 (λhm=>?_) hS;obtain⟨o,x,x1,x2,x3,x4⟩:=Lv (h j hm);rw[hoj]at x1;injection x1 with x1
     subst x1;exact hnot x x2 x3 x4
   refine⟨x2,vN hi hsel hQ hL n _ a' w' (λk ok hk hki hu Km=>hfree k ok hk hki ?_ Km) (ready_mono hr (Ne.symm PU)) x1 h2 ?_⟩
   .by_cases hjk:j=k
    .subst hjk;exact hun
    .rw[getD_set_ne true hjk]at hu;exact hu
   .rw[Array.setIfInBounds_comm _ _ PU];exact x3
theorem mA{l:List (Nat×Nat)}{x1 x2 x3 x4 x5}{c:Array Bool}{a a':Act}(h:RT l (Lu P md ops Q S L n (c.setIfInBounds i true) a' w))
 (hi:ops[i]?=some ⟨some d,x1,x2,x3,x4,x5⟩:=by rfl)
 (hb:(Region.noSelect ops && (Region.free md ops c i && ((Region.ready md ops c).contains i && (Region.wanted ⟨some d,x1,x2,x3,x4,x5⟩ (yielded ops a.tmps) && L.all λk=>Fv md ops k i))))=true:=by kernel_rfl)
 (hQ:∀c a w,Q (.panic c) (a.put (some d) v) w->Q (.panic c) a w:=by exact λ_ _ _ h=>h)(hS:S w:=by assumption)
 (y:∀w,S w->(execOp a.eval ⟨some d,x1,x2,x3,x4,x5⟩).run P w=.ok (.value v) w:=by intro w hS;(try dsimp only at hS);go_simp;try with_reducible rfl)
 (ha:a.put (some d) v=a':=by simp only[Act.put,pa,pb,pc];exact rfl):RT ((i,d)::l) (Lu P md ops Q S L (n+1) c a w):=by
 subst ha;simp only[ig]at hb;obtain⟨b1,b2,b3,b4,b5⟩:=hb;exact vN hi (Region.noSelect_spec b1) hQ (.inr ⟨rfl,λk hk=>pE.1 b5 k hk⟩) n c a w (Region.free_spec hi b2) (by simpa using b3) (.inl ⟨b4,y⟩) hS h
theorem lA{l:List (Nat×Nat)}{x1 x2 x3 x4 x5}{c:Array Bool}{a a':Act}(h:RT l (Lu P md ops Q S L n (c.setIfInBounds i true) a' w))
 (hi:ops[i]?=some ⟨some d,x1,x2,x3,x4,x5⟩:=by rfl)
 (hb:(Region.noSelect ops && (Region.free md ops c i && ((Region.ready md ops c).contains i && Region.wanted ⟨some d,x1,x2,x3,x4,x5⟩ (yielded ops a.tmps))))=true:=by kernel_rfl)
 (hQ:∀c a w,Q (.panic c) (a.put (some d) v) w->Q (.panic c) a w:=by exact λ_ _ _ h=>h)
 (y:∀w,(execOp a.eval ⟨some d,x1,x2,x3,x4,x5⟩).run P w=.ok (.value v) w:=by intro w;go_simp;try with_reducible rfl)
 (ha:a.put (some d) v=a':=by simp only[Act.put,pa,pb,pc];exact rfl):RT ((i,d)::l) (Lu P md ops Q S L (n+1) c a w):=by
 subst ha;simp only[ig]at hb;obtain⟨b1,b2,b3,b4⟩:=hb;exact vN (S2:=λ_=>True) hi (Region.noSelect_spec b1) hQ (.inl λ_=>trivial) n c a w (Region.free_spec hi b2) (by simpa using b3) (.inl ⟨b4,λw _=>y w⟩) trivial h
def jZ(P:Program)(md:Region.Mode)(ops:Array Oper)(Q:Exit->Act->World->Prop)(S:World->Prop)(L:List Nat)(n:Nat)(c:Array Bool)(a:Act)(w:World)(rs:List Nat):Prop:=
 ∀i∈rs,wpOp P ops Q i (λa' w'=>(i∉L->S w->S w')/\Lu P md ops Q S L n (c.setIfInBounds i true) a' w') a w
theorem jZ.nil{c:Array Bool}{a:Act} :jZ P md ops Q S L n c a w []:=λ_ h=>by cases h
theorem jZ.cons{c:Array Bool}{a:Act}{o:Oper} 
 (h:∀K':Act->World->Prop,Shut (∀a w,(i∉L->S w)->((i∉L->S w)->Lu P md ops Q S L n (c.setIfInBounds i true) a w)->K' a w)->if Region.wanted o (yielded ops a.tmps)=true then Oper.wp P o a w K' Q else K' (a.put o.dst undef) w)
 (hs:jZ P md ops Q S L n c a w rs)(ho:ops[i]?=some o:=by rfl):jZ P md ops Q S L n c a w (i::rs):=λj hj=>by
 rcases aj.1 hj with rfl|hj
 .exact wpOp_step ho (λK' hK=>h K' (λa w hS hW=>hK a w ⟨λhn _=>hS hn,hW hS⟩))
 .exact hs j hj
theorem vO{c:Array Bool}{a:Act}(hr:Region.ready md ops c=rs)(fc:rs≠[])(h:jZ P md ops Q S L n c a w rs):Lu P md ops Q S L (n+1) c a w:=⟨λh0=>absurd (hr▸h0) fc,hr▸h⟩
theorem fN{c:Array Bool}{a:Act}(i:Nat){o:Oper}
 (h:∀K':Act->World->Prop,Shut (∀a w,(i∉L->S w)->((i∉L->S w)->Lu P md ops Q S L n (c.setIfInBounds i true) a w)->K' a w)->if Region.wanted o (yielded ops a.tmps)=true then Oper.wp P o a w K' Q else K' (a.put o.dst undef) w)
 (hr:Region.ready md ops c=[i]:=by kernel_rfl)(ho:ops[i]?=some o:=by rfl):Lu P md ops Q S L (n+1) c a w:=vO hr (by simp) (jZ.cons h jZ.nil ho)
theorem zQ{c:Array Bool}{a:Act}(hr:Region.ready md ops c=[])(h:Q .normal a w):∀n,Lu P md ops Q S L n c a w
 |0=>⟨hr,h⟩
 |_+1=>⟨λ_=>h,by rw[hr];simp⟩
theorem sM{id:Nat}{a:Act}(L:List Nat)(hm:P.follows .mixedOrders=true)(hS:S w.drew)
 (h:S w.drew->Lu P .any ops Q S L ops.size (Array.replicate ops.size false) a w.drew):(Code.region id ops true).wp P Q a w:=wp_region_any hm (N7 _ _ _ _ (h hS))
end
attribute [local go_sem ↓] Go.wp_at_zero Go.wp_at_succ bw
variable{x x':X}{n:Nat}{w0 w:World}{c':C}
structure CW(x:X)(n:Nat)(w0 w:World)(x':X)(c':C):Prop where
 a:At w x' n c'
 o:ag x.fp w0 w
 f:x'.fp=x.fp
theorem CW.below{w':World}(h:CW x n w0 w x' c')(hb:Below w.heap.size w w'):CW x n w0 w' x' c':=⟨h.a.below hb,h.o.trans (.ai hb),h.f⟩
theorem CW.brk(h:CW x n w0 w x' c'):CW x n w0 (w.setCell ⟨x'.b,7,none⟩ (.bool true)) x' {c' with broken:=true}:=by
 have o2:=(ag.refl [x'.b] w).setCell (p:=⟨x'.b,7,none⟩) (by simp) (.bool true);have A:=h.a;obtain⟨n1,n2,n3,n4⟩:=A.Lf A.hb;have ns:∀{v:Value} {k:Nat} {l:List Value},Sl w 3 v k l->∀g∈cf v,g∉[x'.b]:=λS g hg hm=>n4 S (by rw[<-aI.1 hm];exact hg)
 exact⟨⟨A.hb.bU 7 _,A.hd.only o2 (λg hg hm=>n3 (by rw[<-aI.1 hm];exact hg)),A.hm.only o2 (λhm=>n1 (aI.1 hm).symm) (λhm=>n2 (aI.1 hm).symm),A.ht.only o2 (ns A.ht),A.ho.only o2 (ns A.ho),A.hp.only o2 (λg hg hm=>A.hp.aQ A.hb (by decide) (by decide) (by rw[<-aI.1 hm];exact hg)),A.n1,A.n2,A.n3,A.n4,A.n5,A.n6,A.tl⟩,h.o.trans (o2.mono (λg hg _=>by rw[<-h.f];simp at hg;subst hg;simp[X.fp])),h.f⟩
theorem CW.post{x:X}{v:Value}{n:Nat}{w0 w:World}{c':C}(h:CW x n w0 w {x with tv:=v} c'):yh w0 w x n c':=⟨{x with tv:=v},rfl,rfl,h.a,h.o,λg hg=> .inl (by rw[h.f]at hg;exact hg)⟩
theorem Ht{c:C}(h:At w x n c)(hbr:c.broken=false)(Gn:0<=c.ep)(hb:∀y∈c.table,y<=1023)(BH:c.slot=0\/c.slot=1)(hc:c.d.calls<=3999999999999999900)(ha:c.d.bn<=9223372036854775807)(hol:c.parts.length<=5)
 (hr:cB c.cd.table.length<=(Fm.gu c.m 0).length->c.ep<1099511627776->Rt.iC (c.ep+1) (c.cd.table.length:Nat) (Rt.dv ((takeN c.m (cB c.cd.table.length)).2.map Int.toNat))/\Rt.dv ((takeN c.m (cB c.cd.table.length)).2.map Int.toNat)=(takeN c.m (cB c.cd.table.length)).2):
  Calls prog 100 #[sp x.b] w λe w'=>e=.returned (.int .i64 (c.aE n).2)/\yh w w' x n (c.aE n).1:=by
 have KW:=iQ h;rw[show c.fH=0 from by unfold C.fH;rw[hbr];rfl]at KW;have KW:=xh KW;obtain⟨R,hR⟩:∃R,c.aE n=R:=⟨_,rfl⟩;rw[hR];have tl:=h.tl;have pQ:=xh h.lt;obtain⟨TA,tc,xd,htc⟩:=h.ht.val;have hx:x={x with tv:= .slice TA c.table.length tc}:=by rw[<-xd]
 have HA:=xh (show At w {x with tv:= .slice TA c.table.length tc} n {c with table:=c.table.take c.table.length}from by rw[fL,<-hx];exact h);have HV:=xh xd;obtain⟨T,hT⟩:∃T,kn c.table c.table.length=T:=⟨_,rfl⟩;have JD:T<=c.table.length:=by rw[<-hT];exact zI _ _
 have htf:c.cd={c with table:=c.table.take T}:=by unfold C.cd;rw[hT]
 have htl:c.cd.table.length=T:=by rw[htf];show(c.table.take T).length=T;rw[bK];omega
 have HT:=xh hT;unfold C.aE at hR;rw[htl]at hR hr;rw[htf]at hR;have HR:=xh hR;clear hR hT htf htl hx xd hbr h;unfold sp at *;go_enter func100,ntmps100;go_wp2_with fail;refine KW.o.mono ?_;rintro e w1 ⟨rfl,rfl⟩
 go_upto_if 14 with(fail)
 iterate 5 (first|go_values|go_skip|go_guarded|go_step|go_upon|go_back)
 go_cut []from 16 to 50 (λwx=>Hid (At wx {x with tv:= .slice TA T tc} n {c with table:=c.table.take T}/\ag [x.b] w wx))
 case first=>
  go_wp2_with fail
  go_loopw [19] (λ_ wr=> ∃k:Nat,k<=c.table.length/\Hid (kn c.table k=T)/\Hid (At wr {x with tv:= .slice TA k tc} n {c with table:=c.table.take k}/\ag [x.b] w wr)) (λ_ wr=>NY wr x.b)
  case atStart=>exact⟨c.table.length,Nat.le_refl _,HT,xh ⟨HA.o,ag.refl _ _⟩⟩
  case round=>
   obtain⟨k,hk,HK,HB⟩:=hrel;have f2:=HB.o.1.f2;have kE:(c.table.take k).length=k:=by rw[bK];omega
   have JC:(k≠0/\c.table.getD (k-1) 0<0)\/k=T/\(k=0\/¬c.table.getD (k-1) 0<0):=by
    have:=HK.o
    cases k with
    |zero=>exact .inr ⟨this,.inl rfl⟩
    |succ k=>
     rw[mz]at this
     split at this
     .rename_i h;exact .inl ⟨by omega,h⟩
     .rename_i h;exact .inr ⟨this,.inr h⟩
   rcases JC with⟨P0,zG⟩|⟨hkT,P0⟩
   .obtain⟨j,rfl⟩:∃j,k=j+1:=⟨k-1,by omega⟩;rw[oe]at zG;obtain⟨g,cp,hv,ck⟩:=HB.o.1.tk j (by show j<(c.table.take (j+1)).length;omega);rw[show({c with table:=c.table.take (j+1)}:C).table.getD j 0=c.table.getD j 0 from by show(c.table.take (j+1)).getD j 0=_;simp[List.getD]]at ck;have hv:(Value.slice TA (j+1) tc)= .slice (some ⟨g,0,none⟩) (c.table.take (j+1)).length cp:=hv;rw[kE]at hv;injection hv with e1 e2 e3
    subst e1 e3;clear e2;have f2:wr.cell? ⟨x.b,2,none⟩=some (.slice (some ⟨g,0,none⟩) (j+1) tc):=f2;have HK2:=xh (show kn c.table j=T from by have:=HK.o;rw[mz,if_pos zG]at this;exact this);have e4:IntKind.i64.wrap ((j:Int)+1-1)=(j:Int):=by rw[Ec];exact IntWalk.i64_in _ (by omega)
    have e5:IntKind.i64.wrap (j:Int)=(j:Int):=IntWalk.i64_in _ (by omega);have e6:(0:Int)<(j:Int)+1:=by omega
    have e7:(j:Int)<(j:Int)+1:=by omega
    generalize c.table.getD j 0=pv at *;go_wp2_with fail;go_quiet (fail);have z2:=HB.o.1.fz 2 (by omega);have z2:wr.frozen? ⟨x.b,2,none⟩=false:=z2;have HN:=xh (show ∀m,At ((wr.drewN m).setCell ⟨x.b,2,none⟩ (.slice (some ⟨g,0,none⟩) j tc)) {x with tv:= .slice (some ⟨g,0,none⟩) j tc} n {c with table:=c.table.take j}/\ag [x.b] w ((wr.drewN m).setCell ⟨x.b,2,none⟩ (.slice (some ⟨g,0,none⟩) j tc))from λm=>by
     have A1:=HB.o.1.drewN m;have lY:∀y∈cf (.slice (some ⟨g,0,none⟩) j tc),y∈cf (.slice (some ⟨g,0,none⟩) (j+1) tc):=λy hy=>hy;have S:=A1.ht;have S:Sl (wr.drewN m) 3 (.slice (some ⟨g,0,none⟩) (j+1) tc) (j+1) (cZ (c.table.take (j+1))):=by have S2:=S;rw[show({c with table:=c.table.take (j+1)}:C).table.length=j+1 from kE]at S2;exact S2
     have S3:=S.cut rfl j (by omega);have e:(cZ (c.table.take (j+1))).take j=cZ (c.table.take j):=by unfold cZ;rw[<-lU,List.take_take,qQ (by omega)]
     rw[e]at S3;have hl:(c.table.take j).length=j:=by rw[bK];omega
     have S4:Sl (wr.drewN m) 3 (.slice (some ⟨g,0,none⟩) j tc) (c.table.take j).length (cZ (c.table.take j)):=by rw[hl];exact S3
     obtain⟨_,_,A2,o2⟩:=A1.newT S4 (λhg=>A1.n1 (lY _ hg)) (λy hy=>A1.n4 y (lY y hy)) (λy hy=>A1.n5 y (lY y hy)) (by omega);exact⟨A2,(HB.o.2.drewN m).trans o2⟩)
    have HM:=xh (show ∀m,NY ((wr.drewN m).setCell ⟨x.b,2,none⟩ (.slice (some ⟨g,0,none⟩) j tc)) x.b<NY wr x.b from λm=>by
     have c2:((wr.drewN m).setCell ⟨x.b,2,none⟩ (.slice (some ⟨g,0,none⟩) j tc)).cell? ⟨x.b,2,none⟩=some (.slice (some ⟨g,0,none⟩) j tc):=(HN.o m).1.f2;unfold NY;rw[c2,f2];show j<j+1;omega)
    go_wp2_with fail
    go_region
    go_wp2_with fail;go_roundw
    case rel=>exact⟨j,by omega,HK2,xh (HN.o _)⟩
    case measure=>exact HM.o _
   .rcases yt k with hz|hpos
    .subst hz;subst hkT;go_wp2_with fail;go_quiet (fail);go_wp2_with fail;go_meet;exact xh ⟨HB.o.1.drewN nq,HB.o.2.drewN nq⟩
    .obtain⟨jz,rfl⟩:∃jz,k=jz+1:=⟨k-1,by omega⟩;subst hkT
     rcases P0 with P0|P0
     .omega
     rw[oe]at P0;obtain⟨gz,cp,NL,ck⟩:=HB.o.1.tk jz (by show jz<(c.table.take (jz+1)).length;omega);rw[show({c with table:=c.table.take (jz+1)}:C).table.getD jz 0=c.table.getD jz 0 from by show(c.table.take (jz+1)).getD jz 0=_;simp[List.getD]]at ck;have hv:(Value.slice TA (jz+1) tc)= .slice (some ⟨gz,0,none⟩) (c.table.take (jz+1)).length cp:=NL;clear NL;rw[kE]at hv;injection hv with e1 e2 e3
     subst e1 e3;clear e2;have f2:wr.cell? ⟨x.b,2,none⟩=some (.slice (some ⟨gz,0,none⟩) (jz+1) tc):=f2;have e4:IntKind.i64.wrap ((jz:Int)+1-1)=(jz:Int):=by rw[Ec];exact IntWalk.i64_in _ (by omega)
     have e5:IntKind.i64.wrap (jz:Int)=(jz:Int):=IntWalk.i64_in _ (by omega);have e6:(0:Int)<(jz:Int)+1:=by omega
     have e7:(jz:Int)<(jz:Int)+1:=by omega
     have hdv:decide (c.table.getD jz 0<0)=false:=by rw[decide_eq_false_iff_not];exact P0
     generalize c.table.getD jz 0=pv at *;go_wp2_with fail;go_quiet (fail);go_wp2_with fail;go_meet;exact xh ⟨HB.o.1.drewN nq,HB.o.2.drewN nq⟩
 case rest=>
  have HB:=xh hcut.o;clear hcut;have kE:(c.table.take T).length=T:=by rw[bK];omega
  have hfp:({x with tv:= .slice TA T tc}:X).fp=x.fp:=by
   unfold X.fp;rw[HV.o,Ui TA T c.table.length tc]
  have KND:=xh (λ(W:World)=>Rt.zu ((T:Nat):Int) (by omega) W);rw[NZ]at KND;have KFR:=xh (λ(W:World) (hW:At W {x with tv:= .slice TA T tc} n {c with table:=c.table.take T})=>Fm.Tw hW.hm);rw[show({c with table:=c.table.take T}:C).m=c.m from rfl]at KFR;unfold Fm.mp at KFR;have hk:T<=c.table.length:=JD
  have C0:=xh (show CW x n w wc {x with tv:= .slice TA T tc} {c with table:=c.table.take T}from⟨HB.o.1,HB.o.2.mono (λg hg _=>by simp at hg;subst hg;simp[X.fp]),hfp⟩);have f1:=C0.o.a.f1;have f2:=C0.o.a.f2;have f5:=C0.o.a.f5;have f2:wc.cell? ⟨x.b,2,none⟩=some (.slice TA (c.table.take T).length tc):=by rw[kE];exact f2
  have f1:wc.cell? ⟨x.b,1,none⟩=some (.pointer (some ⟨x.mb,0,none⟩)):=f1;rw[kE]at f2;go_wp2_with fail;refine(KND.o _).mono ?_;rintro e v1 ⟨rfl,bg⟩;have C1:=xh (C0.o.below bg);have g1:v1.cell? ⟨x.b,1,none⟩=some (.pointer (some ⟨x.mb,0,none⟩)):=C1.o.a.f1;clear bg f1 f2 f5;go_wp2_with fail;refine(KFR.o _ C1.o.a).mono ?_;rintro e v2 ⟨rfl,dn⟩;have C2:=xh (C1.o.below dn);have f5:=C2.o.a.f5;have f5:v2.cell? ⟨x.b,5,none⟩=some (.int .i64 c.ep):=f5;clear dn g1
  by_cases GZ:(Fm.gu c.m 0).length<cB T
  .have hI:((Fm.gu c.m 0).length:Int)<((cB T:Nat):Int):=by omega
   have vH:=HR.o;rw[if_pos GZ]at vH;subst vH;generalize cB T=nd at *;go_wp2_with fail;go_ret;exact aP C2.o.post
  have hI:¬((Fm.gu c.m 0).length:Int)<((cB T:Nat):Int):=by omega
  by_cases hee:1099511627776<=c.ep
  .have vH:=HR.o;rw[if_neg GZ,if_pos hee]at vH;subst vH;generalize cB T=nd at *;go_wp2_with fail;go_ret;exact aP C2.o.post
  have vH:=HR.o;rw[if_neg GZ,if_neg hee]at vH;obtain⟨pY,hnn⟩:=hr (by omega) (by omega);have hkl2:T<=512:=by omega
  have hnd5:cB T<=5:=by unfold cB;omega
  have hm1024:=C2.o.a.hm.hl;have HR3:=xh vH;clear vH GZ hr;obtain⟨nd,Ct⟩:∃nd,cB T=nd:=⟨_,rfl⟩;rw[Ct]at hI pY hnn HR3 hnd5 ⊢;clear Ct;have uS:decide (((Fm.gu c.m 0).length:Int)<(nd:Int))=false:=by rw[decide_eq_false_iff_not];exact hI
  have hd3:decide ((Fm.gu c.m 0).length<nd)=false:=by rw[decide_eq_false_iff_not];omega
  have Qt:decide ((1099511627776:Int)<=c.ep)=false:=by rw[decide_eq_false_iff_not];omega
  have PNL:=xh (λi=>qY c.m i);go_wp2_with fail
  go_loopw [5,6,7,72] (λpv _ _ iv wq=> ∃i:Nat,i<=nd/\iv=.int .i64 i/\aS wq 3 1 pv i (cZ (takeN c.m i).2)/\Hid (CW x n w wq {x with tv:= .slice TA T tc} {c with table:=c.table.take T,m:=(takeN c.m i).1}/\∀g∈ah pv,w.heap.size<=g)) (λ_ _ _ iv _=>nd-(intOf iv).toNat)
  case atStart=>exact⟨0,bf _,rfl,aS.nil _ _ _,xh ⟨C2.o,by simp[ah]⟩⟩
  case round=>
   obtain⟨i,hi,rfl,S,HC⟩:=hrel;obtain⟨VA,vc,rfl⟩:=ax S
   by_cases h':i<nd
   .have hiI:(i:Int)<(nd:Int):=by omega
    have g1:wr.cell? ⟨x.b,1,none⟩=some (.pointer (some ⟨x.mb,0,none⟩)):=HC.o.1.a.f1;have KT:=xh (Fm.tU HC.o.1.a.hm);have HM:=xh (λ(W:World) (mm:Fm.dE W x.mb x.mg (Fm.cG (takeN c.m i).1).1) (ow:ag [x.mg] wr W)=>HC.o.1.a.map mm ow);have HTK:=xh (show takeN c.m (i+1)=((Fm.cG (takeN c.m i).1).1,(takeN c.m i).2++[(Fm.cG (takeN c.m i).1).2.1])from rfl);rw[show({c with table:=c.table.take T,m:=(takeN c.m i).1}:C).m=(takeN c.m i).1 from rfl]at KT
    generalize Fm.cG (takeN c.m i).1=tf at *;obtain⟨tm,tid,te⟩:=tf;dsimp only at KT;unfold Fm.mp at KT;go_wp2_with fail;refine KT.o.mono ?_;rintro e v3 ⟨rfl,mm,ow⟩;have A3:=HM.o _ mm ow;have s3:=S.only ow (λg hg hm=>by have:=HC.o.2 g hg;have:=pQ.o x.mg (by simp[X.fp]);simp at hm;omega);obtain⟨v',w4,ea,S4,ow4,fr4⟩:=dj (P:=prog) s3 60 60 (.int .i64 0) 8 underlying60 kG rfl (.int .i64 tid) rfl (by unfold maxLen;omega) (by omega)
    obtain⟨V4,c4,rfl⟩:=ax S4;have H4:=xh (show aS w4 3 1 (.slice V4 (i+1) c4) (i+1) (cZ (takeN c.m (i+1)).2)/\CW x n w w4 {x with tv:= .slice TA T tc} {c with table:=c.table.take T,m:=(takeN c.m (i+1)).1}/\∀g∈ah (.slice V4 (i+1) c4),w.heap.size<=g from by
     rw[HTK.o];refine⟨by rw[fW];exact S4,⟨A3.only ow4 (λg hF hg=>by have:=HC.o.2 g hg;have:=pQ.o g (by rw[hfp]at hF;exact hF);omega),(HC.o.1.o.trans (ow.mono (λg hg _=>rW x g hg))).aL ow4 (λg hg dP=>by have:=HC.o.2 g hg;omega),hfp⟩,λg hg=>(fr4 g hg).elim (HC.o.2 g) (λh=>by have:=HC.o.1.o.size;have:=ow.size;omega)⟩)
    have EA:=xh ea;clear ea S4 ow4 fr4 s3 A3 mm ow S g1;go_wp2_with fail;rw[EA.o];go_wp2_with fail;go_roundw
    case rel=>exact⟨i+1,by omega,by go_num,H4.o.1,xh H4.o.2⟩
    case measure=>simp[intOf];omega
   .obtain rfl:i=nd:=by omega
    have uR:(Rt.dv ((takeN c.m i).2.map Int.toNat)).length=i:=by rw[hnn];exact PNL.o i
    have hown:cf (.slice VA i vc)=[]\/cf (.slice VA i vc)=ah (.slice VA i vc):=by
     cases VA with
     |none=>exact .inl rfl
     |some a=>unfold cf ah;by_cases h0:vc=0<;>simp[h0]
    have lY:∀g∈cf (.slice VA i vc),w.heap.size<=g:=λg hg=>by
     rcases hown with h|h
     .rw[h]at hg;simp at hg
     .rw[h]at hg;exact HC.o.2 g hg
    have hic:i<=vc:=by
     obtain⟨A',c',e,hle⟩:=(Sl.vi S).val;injection e with _ _ e3
     omega
    have SP:Sl wr 3 (.slice VA i vc) i (cZ (Rt.dv ((takeN c.m i).2.map Int.toNat))):=by rw[hnn];exact Sl.vi S
    have KL:=yA HC.o.1.a ((takeN c.m i).2.map Int.toNat) SP hic (λg hg hF=>by have:=lY g hg;have:=pQ.o g (by rw[hfp]at hF;exact hF);omega) (show Rt.iC (c.ep+1) ((c.table.take T).length:Nat) _ from by rw[kE];exact pY) (λy hy=>hb y (gM hy)) BH hc ha;have HR4:=HR3.o;have KL:=xh KL;generalize sN:({c with table:=c.table.take T,m:=(takeN c.m i).1}:C).bH n ((takeN c.m i).2.map Int.toNat)=lf at *;obtain⟨ld,le⟩:=lf;dsimp only at KL HR4
    by_cases hle:le=0
    .subst hle;rw[if_neg (by simp)]at HR4;subst HR4;clear sN;obtain⟨PA,pqc,hpv,hpcc⟩:=HC.o.1.a.hp.val;have hpv:x.pv=.slice PA c.parts.length pqc:=hpv;have HPV:=xh hpv;unfold sp at KL;go_wp2_with fail;refine KL.o.mono ?_;rintro e v3 ⟨rfl,A3,o3⟩
     have C3:=xh (show CW x n w v3 {x with tv:= .slice TA T tc} {c with table:=c.table.take T,m:=cv (takeN c.m i).1 (c.parts.take 0),d:=ld}from⟨by rw[iL];exact A3,HC.o.1.o.trans (o3.mono (λg hg _=>GU x g hg)),hfp⟩);have SP3:=xh (show Sl v3 3 (.slice VA i vc) i (cZ (takeN c.m i).2)from(Sl.vi S).only o3 (λg hg hF=>by have:=lY g hg;have:=pQ.o g (GU x g hF);omega))
     have q4:v3.cell? ⟨x.b,4,none⟩=some (.slice PA c.parts.length pqc):=by rw[<-HPV.o];exact C3.o.a.f4
     clear A3 o3 hpv;go_wp2_with fail
     go_loopw [10,101] (λ_ iv wr=> ∃j:Nat,j<=c.parts.length/\iv=.int .i64 j/\Hid (CW x n w wr {x with tv:= .slice TA T tc} {c with table:=c.table.take T,m:=cv (takeN c.m i).1 (c.parts.take j),d:=ld})/\Hid (Sl wr 3 (.slice VA i vc) i (cZ (takeN c.m i).2))) (λ_ iv _=>c.parts.length-(intOf iv).toNat)
     case atStart=>exact⟨0,bf _,rfl,C3,SP3⟩
     case round=>
      obtain⟨j,hj,rfl,HC4,SP4⟩:=hrel
      by_cases h':j<c.parts.length
      .have hjI:(j:Int)<(c.parts.length:Int):=by omega
       obtain⟨g,cp,rest,hv,⟨_,B⟩,_,_⟩:=HC4.o.a.hp.form (by show 0<c.parts.length;omega);have hv:x.pv=.slice (some ⟨g,0,none⟩) c.parts.length cp:=hv;rw[HPV.o]at hv;injection hv with e1 e2 e3
       subst e1 e3;clear e2;have cj:wr.cell? ⟨g,j,none⟩=some (.int .i64 (c.parts.getD j 0)):=B.ab (by rw[dh,bE (by simpa using h'),pP _ _ h']);have g1:wr.cell? ⟨x.b,1,none⟩=some (.pointer (some ⟨x.mb,0,none⟩)):=HC4.o.a.f1;have hlv:cv (takeN c.m i).1 (c.parts.take (j+1))=(Fm.dD (cv (takeN c.m i).1 (c.parts.take j)) (c.parts.getD j 0)).1:=by
        rw[gy h',Fo];simp[cv,List.getD,aG h']
       have KLV:=xh (Fm.qU HC4.o.a.hm (c.parts.getD j 0));rw[show({c with table:=c.table.take T,m:=cv (takeN c.m i).1 (c.parts.take j),d:=ld}:C).m=cv (takeN c.m i).1 (c.parts.take j)from rfl,<-hlv]at KLV;have HM:=xh (λ(W:World) (mm:Fm.dE W x.mb x.mg (cv (takeN c.m i).1 (c.parts.take (j+1)))) (ow:ag [x.mg] wr W)=>HC4.o.a.map mm ow);generalize (Fm.dD (cv (takeN c.m i).1 (c.parts.take j)) (c.parts.getD j 0)).2=lq at *
       generalize c.parts.getD j 0=pj at *;unfold Fm.mp at KLV;clear hlv B;go_wp2_with fail;refine KLV.o.mono ?_;rintro e v4 ⟨rfl,mm,ow⟩;have C5:=xh (show CW x n w v4 {x with tv:= .slice TA T tc} {c with table:=c.table.take T,m:=cv (takeN c.m i).1 (c.parts.take (j+1)),d:=ld}from⟨HM.o _ mm ow,HC4.o.o.trans (ow.mono (λg hg _=>rW x g hg)),hfp⟩);have SP5:=xh (SP4.o.only ow (λg hg hm=>by have:=lY g hg;have:=pQ.o x.mg (by simp[X.fp]);simp at hm;omega))
       clear mm ow;go_wp2_with fail;go_roundw
       case rel=>exact⟨j+1,by omega,by go_num,C5,SP5⟩
       case measure=>simp[intOf];omega
      .obtain rfl:j=c.parts.length:=by omega
       have g1:wr.cell? ⟨x.b,1,none⟩=some (.pointer (some ⟨x.mb,0,none⟩)):=HC4.o.a.f1;rw[fL]at HC4;have KCM:=xh (Fm.Kk HC4.o.a.hm);rw[show({c with table:=c.table.take T,m:=cv (takeN c.m i).1 c.parts,d:=ld}:C).m=cv (takeN c.m i).1 c.parts from rfl]at KCM;have HM:=xh (λ(W:World) (mm:Fm.dE W x.mb x.mg (Fm.ja 0 1 (cv (takeN c.m i).1 c.parts))) (ow:ag [x.mg] wr W)=>HC4.o.a.map mm ow);unfold Fm.mp at KCM;go_wp2_with fail
       refine KCM.o.mono ?_;rintro e v6 ⟨rfl,mm,ow⟩;have C6:=xh (show CW x n w v6 {x with tv:= .slice TA T tc} {c with table:=c.table.take T,m:=Fm.ja 0 1 (cv (takeN c.m i).1 c.parts),d:=ld}from⟨HM.o _ mm ow,HC4.o.o.trans (ow.mono (λg hg _=>rW x g hg)),hfp⟩);have SP6:=xh (SP4.o.only ow (λg hg hm=>by have:=lY g hg;have:=pQ.o x.mg (by simp[X.fp]);simp at hm;omega))
       have KC:=xh (λ(W:World) (hW:At W {x with tv:= .slice TA T tc} n {c with table:=c.table.take T,m:=Fm.ja 0 1 (cv (takeN c.m i).1 c.parts),d:=ld})=>He (v:= .slice TA T tc) hW.ht (by show(c.table.take T).length<=100000;omega));have e8:IntKind.i64.wrap (c.ep+1)=c.ep+1:=IntWalk.i64_in _ (by omega);have e9:IntKind.i64.wrap (1-c.slot)=1-c.slot:=IntWalk.i64_in _ (by omega);have d2:v6.cell? ⟨x.b,2,none⟩=some (.slice TA T tc):=C6.o.a.f2
       have d5:v6.cell? ⟨x.b,5,none⟩=some (.int .i64 c.ep):=C6.o.a.f5;have d6:v6.cell? ⟨x.b,6,none⟩=some (.int .i64 c.slot):=C6.o.a.f6;have HNC:=xh (show ∀v7 vo,Sl v7 3 vo (c.table.take T).length (cZ (c.table.take T))->Below v6.drew.heap.size v6.drew v7->(∀g∈cf vo,v6.drew.heap.size<=g)->
         yh w ((((v7.setCell ⟨x.b,3,none⟩ vo).setCell ⟨x.b,4,none⟩ (.slice VA i vc)).setCell ⟨x.b,5,none⟩ (.int .i64 (c.ep+1))).setCell ⟨x.b,6,none⟩ (.int .i64 (1-c.slot))) x n
          {c with table:=c.table.take T,m:=Fm.ja 0 1 (cv (takeN c.m i).1 c.parts),d:=ld,bQ:=c.table.take T,parts:=(takeN c.m i).2,ep:=c.ep+1,slot:=1-c.slot}from λv7 vo S7 rU fr7=>by
        have A7:=C6.o.a.drew.below rU;have SP7:Sl v7 3 (.slice VA i vc) (takeN c.m i).2.length (cZ (takeN c.m i).2):=by rw[PNL.o];exact SP6.o.drew.below rU
        have hfpl:∀g∈({x with tv:= .slice TA T tc}:X).fp,g<w.heap.size:=λg hg=>pQ.o g (by rw[hfp]at hg;exact hg);have hws:w.heap.size<=v6.drew.heap.size:=C6.o.o.size;obtain⟨A8,o8⟩:=A7.newC S7 SP7 (λg hg hF=>by have:=fr7 g hg;have:=hfpl g hF;omega) (λg hg hF=>by have:=lY g hg;have:=hfpl g hF;omega) (λg hg hp=>by have:=fr7 g hg;have:g<v6.drew.heap.size:=SP6.o.lt g hp;omega) (c.ep+1) (1-c.slot)
        refine⟨{x with tv:= .slice TA T tc,ov:=vo,pv:= .slice VA i vc},rfl,rfl,A8,((C6.o.o.drew).trans (.ai rU)).trans (o8.mono (λg hg _=>by simp at hg;subst hg;simp[X.fp])),λg hg=>?_⟩;have rV:g∈({x with tv:= .slice TA T tc}:X).fp\/g∈cf vo\/g∈cf (.slice VA i vc):=by
         simp only[X.fp,aj,aB]at hg ⊢
         rcases hg with hg|hg|hg|((hg|hg)|hg)|hg
         .exact .inl (.inl hg)
         .exact .inl (.inr (.inl hg))
         .exact .inl (.inr (.inr (.inl hg)))
         .exact .inl (.inr (.inr (.inr (.inl (.inl (.inl hg))))))
         .exact .inl (.inr (.inr (.inr (.inl (.inl (.inr hg))))))
         .exact .inr (.inl hg)
         .exact .inr (.inr hg)
        rcases rV with h|h|h
        .exact .inl (by rw[hfp]at h;exact h)
        .exact .inr (aq hws (fr7 g h))
        .exact .inr (lY g h))
       clear mm ow g1;go_wp2_with fail;refine sM (S:=λW=>W.cell? ⟨x.b,2,none⟩=some (.slice TA T tc)/\W.cell? ⟨x.b,5,none⟩=some (.int .i64 c.ep)/\W.cell? ⟨x.b,6,none⟩=some (.int .i64 c.slot)) [22,25,28,31] (by kernel_rfl) ⟨d2,d5,d6⟩ (λau=>?_);refine cP [(0,117),(1,118),(2,119),(3,120),(4,121),(5,122),(6,123)] ?_
       iterate 7 refine lA ?_
       refine cP [(7,124)] ?_
       iterate 1 refine mA ?_
       refine cP [(9,126),(10,127),(11,128),(12,129)] ?_
       iterate 4 refine lA ?_
       refine cP [(13,130)] ?_
       iterate 1 refine mA ?_
       refine cP [(14,131),(15,132),(16,133),(17,134)] ?_
       iterate 4 refine lA ?_
       refine cP [(18,135)] ?_
       iterate 1 refine mA ?_
       refine cP [(19,136)] ?_
       iterate 1 refine lA ?_
       refine fN 8 λK hK=>?_;go_simp
       go_at_call 85
       refine(KC.o _ C6.o.a.drew).mono ?_;rintro e v7 ⟨vo,rfl,S7,rU,fr7⟩;have A7:=xh (C6.o.a.drew.below rU);have PX:=xh (HNC.o v7 vo S7 rU fr7);obtain⟨V7,c7,rfl,_⟩:=S7.val;have h2:v7.cell? ⟨x.b,2,none⟩=some (.slice TA T tc):=A7.o.f2;have h5:v7.cell? ⟨x.b,5,none⟩=some (.int .i64 c.ep):=A7.o.f5;have h6:v7.cell? ⟨x.b,6,none⟩=some (.int .i64 c.slot):=A7.o.f6;have h3:=A7.o.hb.ab (i:=3) rfl;have h4:=A7.o.hb.ab (i:=4) rfl
       have z3:v7.frozen? ⟨x.b,3,none⟩=false:=A7.o.fz 3 (by omega);have z4:v7.frozen? ⟨x.b,4,none⟩=false:=A7.o.fz 4 (by omega);have z5:v7.frozen? ⟨x.b,5,none⟩=false:=A7.o.fz 5 (by omega);have z6:v7.frozen? ⟨x.b,6,none⟩=false:=A7.o.fz 6 (by omega);have h3:v7.cell? ⟨x.b,3,none⟩=some x.ov:=h3;have h4:v7.cell? ⟨x.b,4,none⟩=some x.pv:=h4;clear S7 rU fr7;go_simp;refine bz hK (λ_=>⟨h2,h5,h6⟩) (λau=>?_);refine cP [(20,137),(21,138)] ?_
       iterate 2 refine lA ?_
       refine fN 22 λK hK=>?_;go_simp;refine bz hK (λh=>absurd (by simp) h) (λ_=>?_);refine cP [(23,139),(24,140)] ?_
       iterate 2 refine lA ?_
       refine fN 25 λK hK=>?_;go_simp;refine bz hK (λh=>absurd (by simp) h) (λ_=>?_);refine cP [(26,141),(27,142)] ?_
       iterate 2 refine lA ?_
       refine fN 28 λK hK=>?_;go_simp;refine bz hK (λh=>absurd (by simp) h) (λ_=>?_);refine cP [(29,143),(30,144)] ?_
       iterate 2 refine lA ?_
       refine fN 31 λK hK=>?_;go_simp;refine bz hK (λh=>absurd (by simp) h) (λ_=>?_);refine zQ (by kernel_rfl) ?_ _;go_wp2_with fail;go_ret
       first
        |exact aP PX.o
        |exact aP (by have q:=PX.o;rw[kE]at q;exact q)
    .rw[if_pos hle]at HR4;subst HR4;have hq:(le != 0)=true:=by rw[bne_iff_ne];exact hle
     have kh:(le==0)=false:=by rw[beq_eq_false_iff_ne];exact hle
     clear sN;unfold sp at KL;go_wp2_with fail;refine KL.o.mono ?_;rintro e v3 ⟨rfl,A3,o3⟩;have C3:=xh (show CW x n w v3 {x with tv:= .slice TA T tc} {c with table:=c.table.take T,m:=(takeN c.m i).1,d:=ld}from⟨A3,HC.o.1.o.trans (o3.mono (λg hg _=>GU x g hg)),hfp⟩);have q7:=C3.o.a.hb.ab (i:=7) rfl;have z7:=C3.o.a.fz 7 (by omega);have q7:v3.cell? ⟨x.b,7,none⟩=some (.bool c.broken):=q7;have z7:v3.frozen? ⟨x.b,7,none⟩=false:=z7;have R7:=xh (C3.o.brk);clear A3 o3
     go_wp2_with fail;go_ret;exact aP R7.o.post
end Sh
end Go.Proofs.YtmonobkginiajaaGreat
