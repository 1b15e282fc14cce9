/- packed. -/
import Derived.Test.YtmonobkginiajaaGreatQ9
set_option linter.all false
set_option maxRecDepth 100000
set_option maxHeartbeats 8000000
namespace Go.Proofs.YtmonobkginiajaaGreat.Sh
open Go.RowKit Pk Dk Pg
attribute [local go_sem ↓] Go.wp_at_zero Go.wp_at_succ
def C.eR (c:C) (n:Nat) (parts:List Int):Nat→D×Int
 | 0=>(c.d,0)
 | i+1=>if (c.eR n parts i).2≠0 then c.eR n parts i else aO (c.eR n parts i).1 n (parts.getD i 0) (c.ep+1) 1 (Rt.fC (Rt.eC c.table i))
def C.aY (c:C) (n:Nat) (parts:List Nat):D×Int:=
 if (c.eR n (Rt.cD parts) parts.length).2≠0 then c.eR n (Rt.cD parts) parts.length
 else if (c.eR n (Rt.cD parts) parts.length).1.db.2≠0 then (c.eR n (Rt.cD parts) parts.length).1.db
 else if ((c.eR n (Rt.cD parts) parts.length).1.db.1.ar n (1-c.slot) (Rt.dF (c.ep+1) c.table.length parts)).2≠0 then (c.eR n (Rt.cD parts) parts.length).1.db.1.ar n (1-c.slot) (Rt.dF (c.ep+1) c.table.length parts)
 else ((c.eR n (Rt.cD parts) parts.length).1.db.1.ar n (1-c.slot) (Rt.dF (c.ep+1) c.table.length parts)).1.db
theorem EV (c:C) (n:Nat) (parts:List Int) (h:c.d.aP≤9223372036854775807): ∀i,(c.eR n parts i).1.calls≤c.d.calls+4*i∧(c.eR n parts i).1.aP≤9223372036854775807
 | 0=>⟨by show c.d.calls≤_; omega,h⟩
 | i+1=>by
  have ih:=EV c n parts h i;unfold C.eR
  split
  ·exact ⟨by omega,ih.2⟩
  ·have:=mD (c.eR n parts i).1 n (parts.getD i 0) (c.ep+1) 1 (Rt.fC (Rt.eC c.table i)) ih.2;exact ⟨by omega,this.2⟩
theorem qs (c:C) (n:Nat) (parts:List Int) (i:Nat):c.eR n parts (i+1)=if (c.eR n parts i).2≠0 then c.eR n parts i else aO (c.eR n parts i).1 n (parts.getD i 0) (c.ep+1) 1 (Rt.fC (Rt.eC c.table i)):=rfl
theorem wJ (c:C) (n:Nat) (parts:List Int) (i:Nat) (h:(c.eR n parts i).2≠0): ∀k,c.eR n parts (i+k)=c.eR n parts i
 | 0=>rfl
 | k+1=>by
  have ih:=wJ c n parts i h k;rw [show i+(k+1)=(i+k)+1 by omega,qs,ih,if_pos h]
structure kx (w0 w:World) (x:X) (n:Nat) (c:C) (d:D) (v:Value) (parts:List Int):Prop where
 at_:At w x n {c with d:=d}
 on:ag x.L.fp w0 w
 bx:ax w w0.heap.size 61 #[sp x.b]
 bo:ax w (w0.heap.size+1) 31 #[.int .i64 0]
 ps:Sl w 3 v parts.length (cw parts)
 nf: ∀g∈bA v,g∉x.L.fp
 lt2: ∀g∈x.fp,g<w0.heap.size
section
variable {w0 w w':World} {x:X} {n:Nat} {c:C} {d:D} {v:Value} {parts:List Int}
theorem kx.lt (h:kx w0 w x n c d v parts): ∀g∈x.L.fp,g<w0.heap.size:=fun g hg=>h.lt2 g (zE x g hg)
theorem kx.below (h:kx w0 w x n c d v parts) (hb:Below w.heap.size w w'):kx w0 w' x n c d v parts:=
 ⟨h.at_.below hb,h.on.trans (.ak hb),h.bx.below hb h.bx.lt,h.bo.below hb h.bo.lt,h.ps.below hb,h.nf,h.lt2⟩
theorem kx.step {d':D} (h:kx w0 w x n c d v parts) (A:At w' x n {c with d:=d'}) (o:ag x.L.fp w w'):kx w0 w' x n c d' v parts:=
 ⟨A,h.on.trans o,h.bx.only o (fun hg=>by have:=h.lt _ hg; omega),h.bo.only o (fun hg=>by have:=h.lt _ hg; omega),h.ps.only o (fun g hg=>h.nf g hg),h.nf,h.lt2⟩
theorem kx.out (h:kx w0 w x n c d v parts) (u:Value):At (w.setCell ⟨w0.heap.size+1,0,none⟩ u) x n {c with d:=d}∧ag x.L.fp w0 (w.setCell ⟨w0.heap.size+1,0,none⟩ u)∧(w.setCell ⟨w0.heap.size+1,0,none⟩ u).cell? ⟨w0.heap.size+1,0,none⟩=some u:=
 ⟨h.at_.only ((ag.refl [w0.heap.size+1] w).setCell (p:=⟨w0.heap.size+1,0,none⟩) (by simp) u) (fun g hg hm=>by have:=h.lt2 g hg; simp at hm; omega),h.on.setCell (fun dL=>by dsimp only at dL; omega) u,(h.bo.bq 0 u).ab rfl⟩
theorem kx.part (h:kx w0 w x n c d v parts) (i:Nat) (hi:i<parts.length): ∃g cp,v= .slice (some ⟨g,0,none⟩) parts.length cp∧w.cell? ⟨g,i,none⟩=some (.int .i64 (parts.getD i 0)):=by
 obtain ⟨g,cp,rest,hv,B,_,_⟩:=h.ps.form (by omega);refine ⟨g,cp,hv,B.ab ?_⟩;rw [List.getElem?_toArray,List.getElem?_append_left (by simpa using hi),lR _ _ hi]
end
theorem tF (d:D) (h:d.aP≤9223372036854775807):d.db.1.calls≤d.calls+1∧d.db.1.aP≤9223372036854775807:=by
 have:=qc d h;unfold D.db
 split
 ·exact ⟨by show d.calls≤_; omega,h⟩
 ·split
  ·exact ⟨by show d.bQ.1.calls≤_; omega,this.2⟩
  ·exact ⟨by omega,this.2⟩
theorem rput_of {w0 w:World} {x:X} {n:Nat} {c:C} {d:D} {A:Option Addr} {m cc:Nat} {parts:List Nat} (h:kx w0 w x n c d (.slice A m cc) (Rt.cD parts)) (rW:(Rt.cD parts).length=m) (hmc:m≤cc) (hr:Rt.eQ (c.ep+1) (c.table.length:Nat) (Rt.cD parts)):
  Calls Tryz.prog 102 #[Rt.wG (c.ep+1) (c.table.length:Nat) A m cc] w fun e w'=>e= .returned (.tuple #[.string ⟨(Rt.dF (c.ep+1) c.table.length parts).toArray⟩,.int .i64 0])∧Below w.heap.size w w':=by
 refine Rt.zC (c.ep+1) c.table.length A m cc parts ⟨rW,fun k y hy=>?_⟩ hmc hr;have hk:k<(Rt.cD parts).length:=(List.getElem?_eq_some_iff.1 hy).1;obtain ⟨g,cp,hv,ck⟩:=h.part k hk;rw [rW] at hv;injection hv with e1 e2 e3
 refine ⟨_,e1,?_⟩;rw [show (⟨g,0,none⟩:Addr).add k=⟨g,k,none⟩ from by unfold Addr.add; split<;>simp_all,ck]
 congr 2
 simp [List.getD,hy]
theorem lW {P:Program} {fn:Func} {t t':Array Value} {R:Ending→World→Prop} (h: ∀w,(results fn t').run P w=(results fn t).run P w): ∀(ds:List Deferred) (u:FrameMode) (w:World),Leaves P fn t' R ds u w→Leaves P fn t R ds u w
 | [],.returning,w,⟨v,h1,h2⟩=>⟨v,by rw [←h w]; exact h1,h2⟩
 | [],.panicking _,_,h2=>h2
 | [],.run,_,h2=>h2
 | d::ds,u,w,⟨h1,fv,cap,f,args,h2,h3,h4⟩=>⟨h1,fv,cap,f,args,h2,h3,h4.mono fun e u' w' hh=>by
   cases e with
   | returned v=>exact lW h ds (settle u') w' hh
   | panicked c=>exact lW h ds (raised u' c) w' hh
   | outgrown=>exact hh⟩
theorem au (d:Nat) (hd:d≠4) {R:Ending→World→Prop} {c:List PanicEntry} {a:Act} {v:Value} {w:World} (h:bodyPostD Tryz.prog Tryz.f152 R (.panic c) (a.put (some d) v) w):bodyPostD Tryz.prog Tryz.f152 R (.panic c) a w:=by
 refine lW (fun w=>?_) _ _ _ h;rw [cJ rfl,cJ rfl];simp only [Act.put];have:(a.tmps.setIfInBounds d v).getD 4 undef=a.tmps.getD 4 undef:=by
  rw [Array.getD_eq_getD_getElem?,Array.getD_eq_getD_getElem?,Array.getElem?_setIfInBounds_ne hd]
 rw [this]
theorem sg {w:World} {x:X} {n:Nat} {c:C} (h:At w x n c) {A:Option Addr} {m cc:Nat} (parts:List Nat) (S:Sl w 3 (.slice A m cc) m (cw (Rt.cD parts))) (hmc:m≤cc) (nf: ∀g∈bA (.slice A m cc),g∉x.fp)
  (hr:Rt.eQ (c.ep+1) (c.table.length:Nat) (Rt.cD parts)) (hb: ∀y∈c.table,y≤1023) (vB:c.slot=0∨c.slot=1) (hc:c.d.calls≤3999999999999999900) (ha:c.d.aP≤9223372036854775807):
  Calls Tryz.prog 152 #[sp x.b,.slice A m cc] w fun e w'=>e= .returned (.int .i64 (c.aY n parts).2)∧At w' x n {c with d:=(c.aY n parts).1}∧ag x.L.fp w w':=by
 have hmf: ∀(fn:Fn) (first cap:Array Value) (w:World),(Instr.makeFunc fn first cap).run Tryz.prog w= .ok (.func fn first cap) w:=fun _ _ _ _=>rfl;have rW:(Rt.cD parts).length=m:=by have:=S.1; simpa using this
 have hpl2:parts.length=m:=by rw [←rW]; simp [Rt.cD]
 have hm5:m≤5:=by have:=Rt.iz hr; omega
 have tl:=h.tl;have y9:1≤c.ep+1∧c.ep+1≤1099511627776:=⟨hr.1,hr.2.1⟩;have hneed:(m:Int)=Rt.iQ (c.table.length:Nat):=by have:=hr.2.2.2.2.1; rw [rW] at this; exact this
 obtain ⟨R,hR⟩: ∃R,c.aY n parts=R:=⟨_,rfl⟩;rw [hR];unfold C.aY at hR;rw [hpl2] at hR;have HR:=xh hR;have U0:=ae (Below.refl w.heap.size w) (.cells #[sp x.b] 61);have U1:=ao U0 (ae (Below.refl (w.alloc (.cells #[sp x.b] 61)).heap.size _) (.cells #[.int .i64 0] 31));have L0:=xh (show kx w ((w.alloc (.cells #[sp x.b] 61)).alloc (.cells #[.int .i64 0] 31)) x n c c.d (.slice A m cc) (Rt.cD parts) from
  ⟨h.below U1,.ak U1,(ax.new w _ _).alloc _,by have:=ax.new (w.alloc (.cells #[sp x.b] 61)) 31 #[.int .i64 0]; rw [World.size_alloc] at this; exact this,by rw [rW]; exact S.below U1,fun g hg hF=>nf g hg (zE x g hF),fun g hg=>h.lt g hg⟩)
 have hlb:=xh (fun i=>EV c n (Rt.cD parts) ha i);clear hR U0 U1 S nf h;unfold sp at *
 go_enter_defers Tryz.func152,Tryz.ntmps152
 go_wp2_with fail
 go_loopw [14] (fun iv wr=> ∃i:Nat,i≤m∧iv= .int .i64 i∧Hid ((c.eR n (Rt.cD parts) i).2=0)∧Hid (kx w wr x n c (c.eR n (Rt.cD parts) i).1 (.slice A m cc) (Rt.cD parts))) (fun iv _=>m-(intOf iv).toNat)
 case atStart=>exact ⟨0,Nat.zero_le _,rfl,xh rfl,L0⟩
 case round=>
  obtain ⟨i,hi,rfl,HZ,HL⟩:=hrel;have bb:=hlb.out i
  by_cases h':i<m
  ·obtain ⟨g,cp,hv,ck⟩:=HL.out.part i (by omega);rw [rW] at hv;injection hv with e1 e2 e3
   subst e1 e3;clear e2;have hiI:(i:Int)<(m:Int):=by omega
   have yt:116*i<c.table.length:=by unfold Rt.iQ at hneed; omega
   have hsc:=qs c n (Rt.cD parts) i;rw [if_neg (by rw [HZ.out]; simp)] at hsc;have hid:(Rt.cD parts).getD i 0≤9223372036854775807:=by
    have hm:i<(Rt.cD parts).length:=by omega
    have:=(hr.2.2.2.2.2 i _ (List.getElem?_eq_getElem hm)).2.1;simp only [List.getD,List.getElem?_eq_getElem hm,Option.getD_some];omega
   have K2:=xh (fun (W:World) (hW:kx w W x n c (c.eR n (Rt.cD parts) i).1 (.slice (some ⟨g,0,none⟩) m cc) (Rt.cD parts))=>J0 hW.at_ (hW.bx.ab (i:=0) rfl) i yt hb);have KP:=xh (fun (W:World) (hW:At W x n {c with d:=(c.eR n (Rt.cD parts) i).1})=>fX hW ((Rt.cD parts).getD i 0) 1 ⟨(Rt.fC (Rt.eC c.table i)).toArray⟩ hid (by show 0≤c.ep∧c.ep≤1099511627776; omega) (by show (c.eR n (Rt.cD parts) i).1.calls≤3999999999999999990; omega) bb.2)
   rw [show ({c with d:=(c.eR n (Rt.cD parts) i).1}:C).table=c.table from rfl] at K2;rw [show ({c with d:=(c.eR n (Rt.cD parts) i).1}:C).d=(c.eR n (Rt.cD parts) i).1 from rfl,show ({c with d:=(c.eR n (Rt.cD parts) i).1}:C).ep=c.ep from rfl,show (⟨(Rt.fC (Rt.eC c.table i)).toArray⟩:ByteArray).data.toList=Rt.fC (Rt.eC c.table i) from rfl,←hsc] at KP;generalize (⟨(Rt.fC (Rt.eC c.table i)).toArray⟩:ByteArray)=PB at *
   obtain ⟨er,Cb⟩: ∃er,(c.eR n (Rt.cD parts) (i+1)).2=er:=⟨_,rfl⟩;rw [Cb] at KP;have HS:=xh Cb;clear hsc Cb bb;unfold sp at *;have hdc:(0:Int)≤(i:Int):=by omega
   generalize (Rt.cD parts).getD i 0=pid at *
   by_cases he:er=0
   ·subst he;go_wp2_with fail;have LD:=xh (HL.out.below ((Below.refl _ _).drew));have bD:=LD.out.bx.ab (i:=0) rfl;refine wp_region_held_drew (S:=fun W'=>W'.cell? ⟨w.heap.size,0,none⟩=some (.pointer (some ⟨x.b,0,none⟩))) (by kernel_rfl) (bD) (fun aj=>?_);refine eA (i:=0) (oi:=⟨some 19,_,_,_,_,_⟩) (fun _ _ _ h=>au 19 (by decide) h) ?_
    try simp only [Act.put,pa,pb,pc]
    refine eA (i:=1) (oi:=⟨some 20,_,_,_,_,_⟩) (fun _ _ _ h=>au 20 (by decide) h) ?_
    try simp only [Act.put,pa,pb,pc]
    refine eA (i:=2) (oi:=⟨some 21,_,_,_,_,_⟩) (fun _ _ _ h=>au 21 (by decide) h) ?_
    try simp only [Act.put,pa,pb,pc]
    refine eA (i:=3) (oi:=⟨some 22,_,_,_,_,_⟩) (fun _ _ _ h=>au 22 (by decide) h) ?_
    try simp only [Act.put,pa,pb,pc]
    refine cA (i:=4) (o:=⟨some 23,_,_,_,_,_⟩) fun K hK=>?_;go_simp
    go_at_call 197
    refine (K2.out _ LD.out).mono ?_;rintro e w2 ⟨rfl,bT⟩;have L2:=xh (LD.out.below bT);have b2:=L2.out.bx.ab (i:=0) rfl;clear bT;go_simp;refine hK.out _ _ (b2) (fun aj=>?_)
    try simp only [Act.put,pa,pb,pc]
    refine cA (i:=5) (o:=⟨some 24,_,_,_,_,_⟩) fun K hK=>?_;go_simp
    go_at_call 193
    refine (KP.out _ L2.out.at_).mono ?_;rintro e w3 ⟨rfl,A3,o3⟩;have L3:=xh (L2.out.step A3 o3);have b3:=L3.out.bx.ab (i:=0) rfl;clear A3 o3;go_simp;refine hK.out _ _ (b3) (fun aj=>?_)
    try simp only [Act.put,pa,pb,pc]
    refine cA (i:=6) (o:=⟨some 25,_,_,_,_,_⟩) fun K hK=>?_;go_simp
    go_at_call 199
    refine (kZ _).mono ?_;rintro e w4 ⟨rfl,rfl⟩;go_simp;refine hK.out _ _ (b3) (fun aj=>?_)
    try simp only [Act.put,pa,pb,pc]
    refine wpAnyH_done (by kernel_rfl) ?_ _;go_wp2_with fail;go_roundw
    case rel=>exact ⟨i+1,by omega,by go_num,HS,L3⟩
    case measure=>simp [intOf]; omega
   ·go_wp2_with fail;have LD:=xh (HL.out.below ((Below.refl _ _).drew));have bD:=LD.out.bx.ab (i:=0) rfl;refine wp_region_held_drew (S:=fun W'=>W'.cell? ⟨w.heap.size,0,none⟩=some (.pointer (some ⟨x.b,0,none⟩))) (by kernel_rfl) (bD) (fun aj=>?_);refine eA (i:=0) (oi:=⟨some 19,_,_,_,_,_⟩) (fun _ _ _ h=>au 19 (by decide) h) ?_
    try simp only [Act.put,pa,pb,pc]
    refine eA (i:=1) (oi:=⟨some 20,_,_,_,_,_⟩) (fun _ _ _ h=>au 20 (by decide) h) ?_
    try simp only [Act.put,pa,pb,pc]
    refine eA (i:=2) (oi:=⟨some 21,_,_,_,_,_⟩) (fun _ _ _ h=>au 21 (by decide) h) ?_
    try simp only [Act.put,pa,pb,pc]
    refine eA (i:=3) (oi:=⟨some 22,_,_,_,_,_⟩) (fun _ _ _ h=>au 22 (by decide) h) ?_
    try simp only [Act.put,pa,pb,pc]
    refine cA (i:=4) (o:=⟨some 23,_,_,_,_,_⟩) fun K hK=>?_;go_simp
    go_at_call 197
    refine (K2.out _ LD.out).mono ?_;rintro e w2 ⟨rfl,bT⟩;have L2:=xh (LD.out.below bT);have b2:=L2.out.bx.ab (i:=0) rfl;clear bT;go_simp;refine hK.out _ _ (b2) (fun aj=>?_)
    try simp only [Act.put,pa,pb,pc]
    refine cA (i:=5) (o:=⟨some 24,_,_,_,_,_⟩) fun K hK=>?_;go_simp
    go_at_call 193
    refine (KP.out _ L2.out.at_).mono ?_;rintro e w3 ⟨rfl,A3,o3⟩;have L3:=xh (L2.out.step A3 o3);have b3:=L3.out.bx.ab (i:=0) rfl;clear A3 o3;go_simp;refine hK.out _ _ (b3) (fun aj=>?_)
    try simp only [Act.put,pa,pb,pc]
    refine cA (i:=6) (o:=⟨some 25,_,_,_,_,_⟩) fun K hK=>?_;go_simp
    go_at_call 199
    refine (pf er he _).mono ?_;rintro e w4 ⟨rfl,rfl⟩;dsimp only;have LZ:=L3;refine leaves_cons (f:=196) (args:= #[.pointer (some ⟨w.heap.size+1,0,none⟩)]) (by simp) (by simp [go_sem]) ?_;refine (gF ⟨w.heap.size+1,0,none⟩ 0 er [] _ (LZ.out.bo.ab (i:=0) rfl) (LZ.out.bo.frozen 0 (by simp))).mono ?_;rintro e u' FN ⟨rfl,rfl,rfl⟩;obtain ⟨y1,y2,y3⟩:=LZ.out.out (.int .i64 er);refine ⟨.int .i64 er,?_,?_⟩
    ·rw [cJ rfl];clear y1 y2;go_simp
    ·have pW:=HR.out;rw [show m=(i+1)+(m-(i+1)) by omega,wJ c n _ (i+1) (by rw [HS.out]; exact he),if_pos (by rw [HS.out]; exact he)] at pW;subst pW;exact ⟨by rw [HS.out],y1,y2⟩
  ·obtain rfl:i=m:=by omega
   have pW:=HR.out;rw [if_neg (by rw [HZ.out]; simp)] at pW;obtain ⟨TA,tc,oG,_⟩:=HL.out.at_.ht.val;have oG:x.tv= .slice TA c.table.length tc:=oG;obtain ⟨d1,vD⟩: ∃d1,(c.eR n (Rt.cD parts) i).1=d1:=⟨_,rfl⟩;rw [vD] at HL pW bb;have KS1:=xh (fun (W:World) (hW:kx w W x n c d1 (.slice A i cc) (Rt.cD parts))=>sS hW.at_.hd (by show d1.calls≤_; omega) bb.2);have KI:=xh (fun (W:World) (d:D) (hW:kx w W x n c d (.slice A i cc) (Rt.cD parts))=>rput_of hW rW hmc hr)
   have e1:IntKind.i64.wrap (c.ep+1)=c.ep+1:=IntWalk.i64_in _ (by omega);have e2:IntKind.i64.wrap (1-c.slot)=1-c.slot:=IntWalk.i64_in _ (by omega);have b2:=tF d1 bb.2;rw [show ({c with d:=d1}:C).d=d1 from rfl] at KS1;have hcs:d1.calls≤3999999999999999930:=by omega
   clear vD hlb bb HZ;generalize d1.db=s1 at *;obtain ⟨sd,se⟩:=s1;dsimp only at KS1 pW b2;have f0:=HL.out.bx.ab (i:=0) rfl;have g0:=HL.out.at_.f0;unfold sp dp at *
   by_cases hse:se=0
   ·subst hse;rw [if_neg (by simp)] at pW;have KW:=xh (fun (W:World) (hW:kx w W x n c sd (.slice A i cc) (Rt.cD parts))=>ix hW.at_.hd (1-c.slot) ⟨(Rt.dF (c.ep+1) c.table.length parts).toArray⟩ (by show sd.calls≤_; omega) b2.2);rw [show ({c with d:=sd}:C).d=sd from rfl,show (⟨(Rt.dF (c.ep+1) c.table.length parts).toArray⟩:ByteArray).data.toList=Rt.dF (c.ep+1) c.table.length parts from rfl] at KW
    have b3:=gf sd n (1-c.slot) (Rt.dF (c.ep+1) c.table.length parts) b2.2;generalize sd.ar n (1-c.slot) (Rt.dF (c.ep+1) c.table.length parts)=s2 at *;generalize (⟨(Rt.dF (c.ep+1) c.table.length parts).toArray⟩:ByteArray)=RB at *;obtain ⟨wd,we⟩:=s2;dsimp only at KW pW b3
    by_cases hwe:we=0
    ·subst hwe;rw [if_neg (by simp)] at pW;have KS2:=xh (fun (W:World) (hW:kx w W x n c wd (.slice A i cc) (Rt.cD parts))=>sS hW.at_.hd (by show wd.calls≤_; omega) b3.2);rw [show ({c with d:=wd}:C).d=wd from rfl] at KS2;generalize wd.db=s3 at *;obtain ⟨zd,ze⟩:=s3;dsimp only at KS2 pW
     by_cases hze:ze=0
     ·subst hze;subst pW;go_wp2_with fail;refine (KS1.out _ HL.out).mono ?_;rintro e v1 ⟨rfl,D1,o1⟩;have L1:=xh (HL.out.step (HL.out.at_.vO D1 o1) o1);clear D1 o1 f0 g0;go_wp2_with fail;refine (kZ _).mono ?_;rintro e vm ⟨rfl,rfl⟩;have LV:=xh (L1.out.below ((Below.refl _ _).drew));have q0:=LV.out.bx.ab (i:=0) rfl;have q5:=LV.out.at_.f5;have q2:=LV.out.at_.f2;rw [oG] at q2;go_wp2_with fail
      refine wp_region_held_drew (S:=fun W'=>W'.cell? ⟨w.heap.size,0,none⟩=some (.pointer (some ⟨x.b,0,none⟩))∧W'.cell? ⟨x.b,5,none⟩=some (.int .i64 c.ep)∧W'.cell? ⟨x.b,2,none⟩=some (.slice TA c.table.length tc)) (by kernel_rfl) (⟨q0,q5,q2⟩) (fun aj=>?_);refine eA (i:=0) (oi:=⟨some 34,_,_,_,_,_⟩) (fun _ _ _ h=>au 34 (by decide) h) ?_
      try simp only [Act.put,pa,pb,pc]
      refine eA (i:=1) (oi:=⟨some 35,_,_,_,_,_⟩) (fun _ _ _ h=>au 35 (by decide) h) ?_
      try simp only [Act.put,pa,pb,pc]
      refine eA (i:=2) (oi:=⟨some 36,_,_,_,_,_⟩) (fun _ _ _ h=>au 36 (by decide) h) ?_
      try simp only [Act.put,pa,pb,pc]
      refine eA (i:=3) (oi:=⟨some 37,_,_,_,_,_⟩) (fun _ _ _ h=>au 37 (by decide) h) ?_
      try simp only [Act.put,pa,pb,pc]
      refine eA (i:=4) (oi:=⟨some 38,_,_,_,_,_⟩) (fun _ _ _ h=>au 38 (by decide) h) ?_
      try simp only [Act.put,pa,pb,pc]
      refine eA (i:=5) (oi:=⟨some 39,_,_,_,_,_⟩) (fun _ _ _ h=>au 39 (by decide) h) ?_
      try simp only [Act.put,pa,pb,pc]
      refine eA (i:=6) (oi:=⟨some 40,_,_,_,_,_⟩) (fun _ _ _ h=>au 40 (by decide) h) ?_
      try simp only [Act.put,pa,pb,pc]
      refine eA (i:=7) (oi:=⟨some 41,_,_,_,_,_⟩) (fun _ _ _ h=>au 41 (by decide) h) ?_
      try simp only [Act.put,pa,pb,pc]
      refine eA (i:=8) (oi:=⟨some 42,_,_,_,_,_⟩) (fun _ _ _ h=>au 42 (by decide) h) ?_
      try simp only [Act.put,pa,pb,pc]
      refine eA (i:=9) (oi:=⟨some 43,_,_,_,_,_⟩) (fun _ _ _ h=>au 43 (by decide) h) ?_
      try simp only [Act.put,pa,pb,pc]
      refine eA (i:=10) (oi:=⟨some 44,_,_,_,_,_⟩) (fun _ _ _ h=>au 44 (by decide) h) ?_
      try simp only [Act.put,pa,pb,pc]
      refine eA (i:=11) (oi:=⟨some 45,_,_,_,_,_⟩) (fun _ _ _ h=>au 45 (by decide) h) ?_
      try simp only [Act.put,pa,pb,pc]
      refine cA (i:=12) (o:=⟨some 46,_,_,_,_,_⟩) fun K hK=>?_;go_simp
      go_at_call 102
      refine (KI.out _ _ LV.out).mono ?_;rintro e v2 ⟨rfl,bT⟩;have L2:=xh (LV.out.below bT);have q0:=L2.out.bx.ab (i:=0) rfl;have q5:=L2.out.at_.f5;have q2:=L2.out.at_.f2;rw [oG] at q2;clear bT;go_simp;refine hK.out _ _ (⟨q0,q5,q2⟩) (fun aj=>?_)
      try simp only [Act.put,pa,pb,pc]
      refine eA (i:=13) (oi:=⟨some 33,_,_,_,_,_⟩) (fun _ _ _ h=>au 33 (by decide) h) ?_
      try simp only [Act.put,pa,pb,pc]
      refine eA (i:=14) (oi:=⟨some 47,_,_,_,_,_⟩) (fun _ _ _ h=>au 47 (by decide) h) ?_
      try simp only [Act.put,pa,pb,pc]
      refine eA (i:=15) (oi:=⟨some 48,_,_,_,_,_⟩) (fun _ _ _ h=>au 48 (by decide) h) ?_
      try simp only [Act.put,pa,pb,pc]
      refine eA (i:=16) (oi:=⟨some 8,_,_,_,_,_⟩) (fun _ _ _ h=>au 8 (by decide) h) ?_
      try simp only [Act.put,pa,pb,pc]
      refine eA (i:=17) (oi:=⟨some 9,_,_,_,_,_⟩) (fun _ _ _ h=>au 9 (by decide) h) ?_
      try simp only [Act.put,pa,pb,pc]
      refine wpAnyH_done (by kernel_rfl) ?_ _;go_wp2_with fail;have LU:=xh (L2.out.below ((Below.refl _ _).drew));have r0:=LU.out.bx.ab (i:=0) rfl;have r1:=LU.out.at_.f0;have r6:=LU.out.at_.f6;clear q0 q5 q2;unfold dp at r1;refine wp_region_held_drew (S:=fun W'=>W'.cell? ⟨w.heap.size,0,none⟩=some (.pointer (some ⟨x.b,0,none⟩))∧W'.cell? ⟨x.b,0,none⟩=some (.pointer (some ⟨x.L.b,0,none⟩))∧W'.cell? ⟨x.b,6,none⟩=some (.int .i64 c.slot)) (by kernel_rfl) (⟨r0,r1,r6⟩) (fun aj=>?_)
      refine eA (i:=0) (oi:=⟨some 49,_,_,_,_,_⟩) (fun _ _ _ h=>au 49 (by decide) h) ?_
      try simp only [Act.put,pa,pb,pc]
      refine eA (i:=1) (oi:=⟨some 50,_,_,_,_,_⟩) (fun _ _ _ h=>au 50 (by decide) h) ?_
      try simp only [Act.put,pa,pb,pc]
      refine eA (i:=2) (oi:=⟨some 51,_,_,_,_,_⟩) (fun _ _ _ h=>au 51 (by decide) h) ?_
      try simp only [Act.put,pa,pb,pc]
      refine eA (i:=3) (oi:=⟨some 52,_,_,_,_,_⟩) (fun _ _ _ h=>au 52 (by decide) h) ?_
      try simp only [Act.put,pa,pb,pc]
      refine eA (i:=4) (oi:=⟨some 53,_,_,_,_,_⟩) (fun _ _ _ h=>au 53 (by decide) h) ?_
      try simp only [Act.put,pa,pb,pc]
      refine eA (i:=5) (oi:=⟨some 54,_,_,_,_,_⟩) (fun _ _ _ h=>au 54 (by decide) h) ?_
      try simp only [Act.put,pa,pb,pc]
      refine eA (i:=6) (oi:=⟨some 55,_,_,_,_,_⟩) (fun _ _ _ h=>au 55 (by decide) h) ?_
      try simp only [Act.put,pa,pb,pc]
      refine eA (i:=7) (oi:=⟨some 56,_,_,_,_,_⟩) (fun _ _ _ h=>au 56 (by decide) h) ?_
      try simp only [Act.put,pa,pb,pc]
      refine eA (i:=8) (oi:=⟨some 57,_,_,_,_,_⟩) (fun _ _ _ h=>au 57 (by decide) h) ?_
      try simp only [Act.put,pa,pb,pc]
      refine eA (i:=9) (oi:=⟨some 58,_,_,_,_,_⟩) (fun _ _ _ h=>au 58 (by decide) h) ?_
      try simp only [Act.put,pa,pb,pc]
      refine cA (i:=10) (o:=⟨some 59,_,_,_,_,_⟩) fun K hK=>?_;go_simp
      go_at_call 103
      refine (KW.out _ LU.out).mono ?_;rintro e v3 ⟨rfl,D3,o3⟩;have L3:=xh (LU.out.step (LU.out.at_.vO D3 o3) o3);have r0:=L3.out.bx.ab (i:=0) rfl;have r1:=L3.out.at_.f0;have r6:=L3.out.at_.f6;unfold dp at r1;clear D3 o3;go_simp;refine hK.out _ _ (⟨r0,r1,r6⟩) (fun aj=>?_)
      try simp only [Act.put,pa,pb,pc]
      refine cA (i:=11) (o:=⟨some 60,_,_,_,_,_⟩) fun K hK=>?_;go_simp
      go_at_call 199
      refine (kZ _).mono ?_;rintro e v4 ⟨rfl,rfl⟩;go_simp;refine hK.out _ _ (⟨r0,r1,r6⟩) (fun aj=>?_)
      try simp only [Act.put,pa,pb,pc]
      refine wpAnyH_done (by kernel_rfl) ?_ _;have f3:v3.cell? ⟨w.heap.size,0,none⟩=some (.pointer (some ⟨x.b,0,none⟩)):=r0;have g3:v3.cell? ⟨x.b,0,none⟩=some (.pointer (some ⟨x.L.b,0,none⟩)):=r1;clear r0 r1 r6;go_wp2_with fail;refine (KS2.out _ L3.out).mono ?_;rintro e v5 ⟨rfl,D5,o5⟩;have L5:=xh (L3.out.step (L3.out.at_.vO D5 o5) o5);clear D5 o5;go_wp2_with fail;refine (kZ _).mono ?_;rintro e vm ⟨rfl,rfl⟩;have o1:=L5.out.bo.ab (i:=0) rfl;have o2:=L5.out.bo.frozen 0 (by simp)
      go_wp2_with fail;refine leaves_cons (f:=196) (args:= #[.pointer (some ⟨w.heap.size+1,0,none⟩)]) (by simp) (by simp [go_sem]) ?_;refine (C9 ⟨w.heap.size+1,0,none⟩ _).mono ?_;rintro e u' FN ⟨rfl,rfl,rfl⟩;obtain ⟨y1,y2,y3⟩:=L5.out.out (.int .i64 0);refine ⟨.int .i64 0,?_,?_⟩
      ·rw [cJ rfl];clear y1 y2;go_simp
      ·exact ⟨rfl,y1,y2⟩
     ·subst pW;go_wp2_with fail;refine (KS1.out _ HL.out).mono ?_;rintro e v1 ⟨rfl,D1,o1⟩;have L1:=xh (HL.out.step (HL.out.at_.vO D1 o1) o1);clear D1 o1 f0 g0;go_wp2_with fail;refine (kZ _).mono ?_;rintro e vm ⟨rfl,rfl⟩;have LV:=xh (L1.out.below ((Below.refl _ _).drew));have q0:=LV.out.bx.ab (i:=0) rfl;have q5:=LV.out.at_.f5;have q2:=LV.out.at_.f2;rw [oG] at q2;go_wp2_with fail
      refine wp_region_held_drew (S:=fun W'=>W'.cell? ⟨w.heap.size,0,none⟩=some (.pointer (some ⟨x.b,0,none⟩))∧W'.cell? ⟨x.b,5,none⟩=some (.int .i64 c.ep)∧W'.cell? ⟨x.b,2,none⟩=some (.slice TA c.table.length tc)) (by kernel_rfl) (⟨q0,q5,q2⟩) (fun aj=>?_);refine eA (i:=0) (oi:=⟨some 34,_,_,_,_,_⟩) (fun _ _ _ h=>au 34 (by decide) h) ?_
      try simp only [Act.put,pa,pb,pc]
      refine eA (i:=1) (oi:=⟨some 35,_,_,_,_,_⟩) (fun _ _ _ h=>au 35 (by decide) h) ?_
      try simp only [Act.put,pa,pb,pc]
      refine eA (i:=2) (oi:=⟨some 36,_,_,_,_,_⟩) (fun _ _ _ h=>au 36 (by decide) h) ?_
      try simp only [Act.put,pa,pb,pc]
      refine eA (i:=3) (oi:=⟨some 37,_,_,_,_,_⟩) (fun _ _ _ h=>au 37 (by decide) h) ?_
      try simp only [Act.put,pa,pb,pc]
      refine eA (i:=4) (oi:=⟨some 38,_,_,_,_,_⟩) (fun _ _ _ h=>au 38 (by decide) h) ?_
      try simp only [Act.put,pa,pb,pc]
      refine eA (i:=5) (oi:=⟨some 39,_,_,_,_,_⟩) (fun _ _ _ h=>au 39 (by decide) h) ?_
      try simp only [Act.put,pa,pb,pc]
      refine eA (i:=6) (oi:=⟨some 40,_,_,_,_,_⟩) (fun _ _ _ h=>au 40 (by decide) h) ?_
      try simp only [Act.put,pa,pb,pc]
      refine eA (i:=7) (oi:=⟨some 41,_,_,_,_,_⟩) (fun _ _ _ h=>au 41 (by decide) h) ?_
      try simp only [Act.put,pa,pb,pc]
      refine eA (i:=8) (oi:=⟨some 42,_,_,_,_,_⟩) (fun _ _ _ h=>au 42 (by decide) h) ?_
      try simp only [Act.put,pa,pb,pc]
      refine eA (i:=9) (oi:=⟨some 43,_,_,_,_,_⟩) (fun _ _ _ h=>au 43 (by decide) h) ?_
      try simp only [Act.put,pa,pb,pc]
      refine eA (i:=10) (oi:=⟨some 44,_,_,_,_,_⟩) (fun _ _ _ h=>au 44 (by decide) h) ?_
      try simp only [Act.put,pa,pb,pc]
      refine eA (i:=11) (oi:=⟨some 45,_,_,_,_,_⟩) (fun _ _ _ h=>au 45 (by decide) h) ?_
      try simp only [Act.put,pa,pb,pc]
      refine cA (i:=12) (o:=⟨some 46,_,_,_,_,_⟩) fun K hK=>?_;go_simp
      go_at_call 102
      refine (KI.out _ _ LV.out).mono ?_;rintro e v2 ⟨rfl,bT⟩;have L2:=xh (LV.out.below bT);have q0:=L2.out.bx.ab (i:=0) rfl;have q5:=L2.out.at_.f5;have q2:=L2.out.at_.f2;rw [oG] at q2;clear bT;go_simp;refine hK.out _ _ (⟨q0,q5,q2⟩) (fun aj=>?_)
      try simp only [Act.put,pa,pb,pc]
      refine eA (i:=13) (oi:=⟨some 33,_,_,_,_,_⟩) (fun _ _ _ h=>au 33 (by decide) h) ?_
      try simp only [Act.put,pa,pb,pc]
      refine eA (i:=14) (oi:=⟨some 47,_,_,_,_,_⟩) (fun _ _ _ h=>au 47 (by decide) h) ?_
      try simp only [Act.put,pa,pb,pc]
      refine eA (i:=15) (oi:=⟨some 48,_,_,_,_,_⟩) (fun _ _ _ h=>au 48 (by decide) h) ?_
      try simp only [Act.put,pa,pb,pc]
      refine eA (i:=16) (oi:=⟨some 8,_,_,_,_,_⟩) (fun _ _ _ h=>au 8 (by decide) h) ?_
      try simp only [Act.put,pa,pb,pc]
      refine eA (i:=17) (oi:=⟨some 9,_,_,_,_,_⟩) (fun _ _ _ h=>au 9 (by decide) h) ?_
      try simp only [Act.put,pa,pb,pc]
      refine wpAnyH_done (by kernel_rfl) ?_ _;go_wp2_with fail;have LU:=xh (L2.out.below ((Below.refl _ _).drew));have r0:=LU.out.bx.ab (i:=0) rfl;have r1:=LU.out.at_.f0;have r6:=LU.out.at_.f6;clear q0 q5 q2;unfold dp at r1;refine wp_region_held_drew (S:=fun W'=>W'.cell? ⟨w.heap.size,0,none⟩=some (.pointer (some ⟨x.b,0,none⟩))∧W'.cell? ⟨x.b,0,none⟩=some (.pointer (some ⟨x.L.b,0,none⟩))∧W'.cell? ⟨x.b,6,none⟩=some (.int .i64 c.slot)) (by kernel_rfl) (⟨r0,r1,r6⟩) (fun aj=>?_)
      refine eA (i:=0) (oi:=⟨some 49,_,_,_,_,_⟩) (fun _ _ _ h=>au 49 (by decide) h) ?_
      try simp only [Act.put,pa,pb,pc]
      refine eA (i:=1) (oi:=⟨some 50,_,_,_,_,_⟩) (fun _ _ _ h=>au 50 (by decide) h) ?_
      try simp only [Act.put,pa,pb,pc]
      refine eA (i:=2) (oi:=⟨some 51,_,_,_,_,_⟩) (fun _ _ _ h=>au 51 (by decide) h) ?_
      try simp only [Act.put,pa,pb,pc]
      refine eA (i:=3) (oi:=⟨some 52,_,_,_,_,_⟩) (fun _ _ _ h=>au 52 (by decide) h) ?_
      try simp only [Act.put,pa,pb,pc]
      refine eA (i:=4) (oi:=⟨some 53,_,_,_,_,_⟩) (fun _ _ _ h=>au 53 (by decide) h) ?_
      try simp only [Act.put,pa,pb,pc]
      refine eA (i:=5) (oi:=⟨some 54,_,_,_,_,_⟩) (fun _ _ _ h=>au 54 (by decide) h) ?_
      try simp only [Act.put,pa,pb,pc]
      refine eA (i:=6) (oi:=⟨some 55,_,_,_,_,_⟩) (fun _ _ _ h=>au 55 (by decide) h) ?_
      try simp only [Act.put,pa,pb,pc]
      refine eA (i:=7) (oi:=⟨some 56,_,_,_,_,_⟩) (fun _ _ _ h=>au 56 (by decide) h) ?_
      try simp only [Act.put,pa,pb,pc]
      refine eA (i:=8) (oi:=⟨some 57,_,_,_,_,_⟩) (fun _ _ _ h=>au 57 (by decide) h) ?_
      try simp only [Act.put,pa,pb,pc]
      refine eA (i:=9) (oi:=⟨some 58,_,_,_,_,_⟩) (fun _ _ _ h=>au 58 (by decide) h) ?_
      try simp only [Act.put,pa,pb,pc]
      refine cA (i:=10) (o:=⟨some 59,_,_,_,_,_⟩) fun K hK=>?_;go_simp
      go_at_call 103
      refine (KW.out _ LU.out).mono ?_;rintro e v3 ⟨rfl,D3,o3⟩;have L3:=xh (LU.out.step (LU.out.at_.vO D3 o3) o3);have r0:=L3.out.bx.ab (i:=0) rfl;have r1:=L3.out.at_.f0;have r6:=L3.out.at_.f6;unfold dp at r1;clear D3 o3;go_simp;refine hK.out _ _ (⟨r0,r1,r6⟩) (fun aj=>?_)
      try simp only [Act.put,pa,pb,pc]
      refine cA (i:=11) (o:=⟨some 60,_,_,_,_,_⟩) fun K hK=>?_;go_simp
      go_at_call 199
      refine (kZ _).mono ?_;rintro e v4 ⟨rfl,rfl⟩;go_simp;refine hK.out _ _ (⟨r0,r1,r6⟩) (fun aj=>?_)
      try simp only [Act.put,pa,pb,pc]
      refine wpAnyH_done (by kernel_rfl) ?_ _;have f3:v3.cell? ⟨w.heap.size,0,none⟩=some (.pointer (some ⟨x.b,0,none⟩)):=r0;have g3:v3.cell? ⟨x.b,0,none⟩=some (.pointer (some ⟨x.L.b,0,none⟩)):=r1;clear r0 r1 r6;go_wp2_with fail;refine (KS2.out _ L3.out).mono ?_;rintro e v5 ⟨rfl,D5,o5⟩;have L5:=xh (L3.out.step (L3.out.at_.vO D5 o5) o5);clear D5 o5;go_wp2_with fail;refine (pf ze hze _).mono ?_;rintro e vm ⟨rfl,rfl⟩;dsimp only;have LZ:=L5
      refine leaves_cons (f:=196) (args:= #[.pointer (some ⟨w.heap.size+1,0,none⟩)]) (by simp) (by simp [go_sem]) ?_;refine (gF ⟨w.heap.size+1,0,none⟩ 0 ze [] _ (LZ.out.bo.ab (i:=0) rfl) (LZ.out.bo.frozen 0 (by simp))).mono ?_;rintro e u' FN ⟨rfl,rfl,rfl⟩;obtain ⟨y1,y2,y3⟩:=LZ.out.out (.int .i64 ze);refine ⟨.int .i64 ze,?_,?_⟩
      ·rw [cJ rfl];clear y1 y2;go_simp
      ·  exact ⟨rfl,y1,y2⟩
    ·go_wp2_with fail;refine (KS1.out _ HL.out).mono ?_;rintro e v1 ⟨rfl,D1,o1⟩;have L1:=xh (HL.out.step (HL.out.at_.vO D1 o1) o1);clear D1 o1 f0 g0;go_wp2_with fail;refine (kZ _).mono ?_;rintro e vm ⟨rfl,rfl⟩;have LV:=xh (L1.out.below ((Below.refl _ _).drew));have q0:=LV.out.bx.ab (i:=0) rfl;have q5:=LV.out.at_.f5;have q2:=LV.out.at_.f2;rw [oG] at q2;go_wp2_with fail
     refine wp_region_held_drew (S:=fun W'=>W'.cell? ⟨w.heap.size,0,none⟩=some (.pointer (some ⟨x.b,0,none⟩))∧W'.cell? ⟨x.b,5,none⟩=some (.int .i64 c.ep)∧W'.cell? ⟨x.b,2,none⟩=some (.slice TA c.table.length tc)) (by kernel_rfl) (⟨q0,q5,q2⟩) (fun aj=>?_);refine eA (i:=0) (oi:=⟨some 34,_,_,_,_,_⟩) (fun _ _ _ h=>au 34 (by decide) h) ?_
     try simp only [Act.put,pa,pb,pc]
     refine eA (i:=1) (oi:=⟨some 35,_,_,_,_,_⟩) (fun _ _ _ h=>au 35 (by decide) h) ?_
     try simp only [Act.put,pa,pb,pc]
     refine eA (i:=2) (oi:=⟨some 36,_,_,_,_,_⟩) (fun _ _ _ h=>au 36 (by decide) h) ?_
     try simp only [Act.put,pa,pb,pc]
     refine eA (i:=3) (oi:=⟨some 37,_,_,_,_,_⟩) (fun _ _ _ h=>au 37 (by decide) h) ?_
     try simp only [Act.put,pa,pb,pc]
     refine eA (i:=4) (oi:=⟨some 38,_,_,_,_,_⟩) (fun _ _ _ h=>au 38 (by decide) h) ?_
     try simp only [Act.put,pa,pb,pc]
     refine eA (i:=5) (oi:=⟨some 39,_,_,_,_,_⟩) (fun _ _ _ h=>au 39 (by decide) h) ?_
     try simp only [Act.put,pa,pb,pc]
     refine eA (i:=6) (oi:=⟨some 40,_,_,_,_,_⟩) (fun _ _ _ h=>au 40 (by decide) h) ?_
     try simp only [Act.put,pa,pb,pc]
     refine eA (i:=7) (oi:=⟨some 41,_,_,_,_,_⟩) (fun _ _ _ h=>au 41 (by decide) h) ?_
     try simp only [Act.put,pa,pb,pc]
     refine eA (i:=8) (oi:=⟨some 42,_,_,_,_,_⟩) (fun _ _ _ h=>au 42 (by decide) h) ?_
     try simp only [Act.put,pa,pb,pc]
     refine eA (i:=9) (oi:=⟨some 43,_,_,_,_,_⟩) (fun _ _ _ h=>au 43 (by decide) h) ?_
     try simp only [Act.put,pa,pb,pc]
     refine eA (i:=10) (oi:=⟨some 44,_,_,_,_,_⟩) (fun _ _ _ h=>au 44 (by decide) h) ?_
     try simp only [Act.put,pa,pb,pc]
     refine eA (i:=11) (oi:=⟨some 45,_,_,_,_,_⟩) (fun _ _ _ h=>au 45 (by decide) h) ?_
     try simp only [Act.put,pa,pb,pc]
     refine cA (i:=12) (o:=⟨some 46,_,_,_,_,_⟩) fun K hK=>?_;go_simp
     go_at_call 102
     refine (KI.out _ _ LV.out).mono ?_;rintro e v2 ⟨rfl,bT⟩;have L2:=xh (LV.out.below bT);have q0:=L2.out.bx.ab (i:=0) rfl;have q5:=L2.out.at_.f5;have q2:=L2.out.at_.f2;rw [oG] at q2;clear bT;go_simp;refine hK.out _ _ (⟨q0,q5,q2⟩) (fun aj=>?_)
     try simp only [Act.put,pa,pb,pc]
     refine eA (i:=13) (oi:=⟨some 33,_,_,_,_,_⟩) (fun _ _ _ h=>au 33 (by decide) h) ?_
     try simp only [Act.put,pa,pb,pc]
     refine eA (i:=14) (oi:=⟨some 47,_,_,_,_,_⟩) (fun _ _ _ h=>au 47 (by decide) h) ?_
     try simp only [Act.put,pa,pb,pc]
     refine eA (i:=15) (oi:=⟨some 48,_,_,_,_,_⟩) (fun _ _ _ h=>au 48 (by decide) h) ?_
     try simp only [Act.put,pa,pb,pc]
     refine eA (i:=16) (oi:=⟨some 8,_,_,_,_,_⟩) (fun _ _ _ h=>au 8 (by decide) h) ?_
     try simp only [Act.put,pa,pb,pc]
     refine eA (i:=17) (oi:=⟨some 9,_,_,_,_,_⟩) (fun _ _ _ h=>au 9 (by decide) h) ?_
     try simp only [Act.put,pa,pb,pc]
     refine wpAnyH_done (by kernel_rfl) ?_ _;go_wp2_with fail;have LU:=xh (L2.out.below ((Below.refl _ _).drew));have r0:=LU.out.bx.ab (i:=0) rfl;have r1:=LU.out.at_.f0;have r6:=LU.out.at_.f6;clear q0 q5 q2;unfold dp at r1;refine wp_region_held_drew (S:=fun W'=>W'.cell? ⟨w.heap.size,0,none⟩=some (.pointer (some ⟨x.b,0,none⟩))∧W'.cell? ⟨x.b,0,none⟩=some (.pointer (some ⟨x.L.b,0,none⟩))∧W'.cell? ⟨x.b,6,none⟩=some (.int .i64 c.slot)) (by kernel_rfl) (⟨r0,r1,r6⟩) (fun aj=>?_)
     refine eA (i:=0) (oi:=⟨some 49,_,_,_,_,_⟩) (fun _ _ _ h=>au 49 (by decide) h) ?_
     try simp only [Act.put,pa,pb,pc]
     refine eA (i:=1) (oi:=⟨some 50,_,_,_,_,_⟩) (fun _ _ _ h=>au 50 (by decide) h) ?_
     try simp only [Act.put,pa,pb,pc]
     refine eA (i:=2) (oi:=⟨some 51,_,_,_,_,_⟩) (fun _ _ _ h=>au 51 (by decide) h) ?_
     try simp only [Act.put,pa,pb,pc]
     refine eA (i:=3) (oi:=⟨some 52,_,_,_,_,_⟩) (fun _ _ _ h=>au 52 (by decide) h) ?_
     try simp only [Act.put,pa,pb,pc]
     refine eA (i:=4) (oi:=⟨some 53,_,_,_,_,_⟩) (fun _ _ _ h=>au 53 (by decide) h) ?_
     try simp only [Act.put,pa,pb,pc]
     refine eA (i:=5) (oi:=⟨some 54,_,_,_,_,_⟩) (fun _ _ _ h=>au 54 (by decide) h) ?_
     try simp only [Act.put,pa,pb,pc]
     refine eA (i:=6) (oi:=⟨some 55,_,_,_,_,_⟩) (fun _ _ _ h=>au 55 (by decide) h) ?_
     try simp only [Act.put,pa,pb,pc]
     refine eA (i:=7) (oi:=⟨some 56,_,_,_,_,_⟩) (fun _ _ _ h=>au 56 (by decide) h) ?_
     try simp only [Act.put,pa,pb,pc]
     refine eA (i:=8) (oi:=⟨some 57,_,_,_,_,_⟩) (fun _ _ _ h=>au 57 (by decide) h) ?_
     try simp only [Act.put,pa,pb,pc]
     refine eA (i:=9) (oi:=⟨some 58,_,_,_,_,_⟩) (fun _ _ _ h=>au 58 (by decide) h) ?_
     try simp only [Act.put,pa,pb,pc]
     refine cA (i:=10) (o:=⟨some 59,_,_,_,_,_⟩) fun K hK=>?_;go_simp
     go_at_call 103
     refine (KW.out _ LU.out).mono ?_;rintro e v3 ⟨rfl,D3,o3⟩;have L3:=xh (LU.out.step (LU.out.at_.vO D3 o3) o3);have r0:=L3.out.bx.ab (i:=0) rfl;have r1:=L3.out.at_.f0;have r6:=L3.out.at_.f6;unfold dp at r1;clear D3 o3;go_simp;refine hK.out _ _ (⟨r0,r1,r6⟩) (fun aj=>?_)
     try simp only [Act.put,pa,pb,pc]
     refine cA (i:=11) (o:=⟨some 60,_,_,_,_,_⟩) fun K hK=>?_;go_simp
     go_at_call 199
     refine (pf we hwe _).mono ?_;rintro e v4 ⟨rfl,rfl⟩;dsimp only;have LZ:=L3;rw [if_pos (by exact hwe)] at pW;refine leaves_cons (f:=196) (args:= #[.pointer (some ⟨w.heap.size+1,0,none⟩)]) (by simp) (by simp [go_sem]) ?_;refine (gF ⟨w.heap.size+1,0,none⟩ 0 we [] _ (LZ.out.bo.ab (i:=0) rfl) (LZ.out.bo.frozen 0 (by simp))).mono ?_;rintro e u' FN ⟨rfl,rfl,rfl⟩;obtain ⟨y1,y2,y3⟩:=LZ.out.out (.int .i64 we);refine ⟨.int .i64 we,?_,?_⟩
     ·rw [cJ rfl];clear y1 y2;go_simp
     ·subst pW;exact ⟨rfl,y1,y2⟩
   ·go_wp2_with fail;refine (KS1.out _ HL.out).mono ?_;rintro e v1 ⟨rfl,D1,o1⟩;have L1:=xh (HL.out.step (HL.out.at_.vO D1 o1) o1);clear D1 o1 f0 g0;go_wp2_with fail;refine (pf se hse _).mono ?_;rintro e vm ⟨rfl,rfl⟩;dsimp only;have LZ:=L1;rw [if_pos (by exact hse)] at pW;refine leaves_cons (f:=196) (args:= #[.pointer (some ⟨w.heap.size+1,0,none⟩)]) (by simp) (by simp [go_sem]) ?_
    refine (gF ⟨w.heap.size+1,0,none⟩ 0 se [] _ (LZ.out.bo.ab (i:=0) rfl) (LZ.out.bo.frozen 0 (by simp))).mono ?_;rintro e u' FN ⟨rfl,rfl,rfl⟩;obtain ⟨y1,y2,y3⟩:=LZ.out.out (.int .i64 se);refine ⟨.int .i64 se,?_,?_⟩
    ·rw [cJ rfl];clear y1 y2;go_simp
    ·subst pW;exact ⟨rfl,y1,y2⟩
end Go.Proofs.YtmonobkginiajaaGreat.Sh
namespace Go.Proofs.YtmonobkginiajaaGreat.Sh
open Go.RowKit Pk Dk Pg
attribute [local go_sem ↓] Go.wp_at_zero Go.wp_at_succ
section
variable {w w':World} {x:X} {n:Nat} {c:C}
theorem At.Da (h:At w x n c) {g:Nat} {cs:Array Value} (B:ax w g 146 cs):g≠x.mb∧g≠x.mg∧g∉x.L.fp∧ ∀{v:Value} {k:Nat} {l:List Value},Sl w 3 v k l→g∉bA v:=by
 refine ⟨fun e=>by subst e; exact B.jF h.hm.hb (by decide) rfl,fun e=>by subst e; exact B.jF h.hm.hg (by decide) rfl,fun hg=>?_,fun S hg=>?_⟩
 ·simp only [Loc.fp,List.mem_cons,List.not_mem_nil,or_false] at hg
  rcases hg with rfl | rfl | rfl | rfl
  ·exact B.jF h.hd.hb (by decide) rfl
  ·exact B.jF h.hd.hN (by decide) rfl
  ·exact B.jF h.hd.hO (by decide) rfl
  ·exact B.jF h.hd.hL (by decide) rfl
 ·obtain ⟨cs',B'⟩:=qg S _ hg;exact B.jF B' (by decide) rfl
theorem At.newT (h:At w x n c) {v':Value} {l:List Int} (S:Sl w 3 v' l.length (cw l)) (hg:x.mg∉bA v') (ho: ∀g∈bA v',g∉bA x.ov) (hp: ∀g∈bA v',g∉bA x.pv) (hl:l.length≤512):
  w.cell? ⟨x.b,2,none⟩=some x.tv∧w.frozen? ⟨x.b,2,none⟩=false∧At (w.setCell ⟨x.b,2,none⟩ v') {x with tv:=v'} n {c with table:=l}∧ag [x.b] w (w.setCell ⟨x.b,2,none⟩ v'):=by
 have o2:=(ag.refl [x.b] w).setCell (p:=⟨x.b,2,none⟩) (by simp) v';obtain ⟨n1,n2,n3,n4⟩:=h.Da h.hb;have ns: ∀{v:Value} {k:Nat} {l:List Value},Sl w 3 v k l→ ∀g∈bA v,g∉[x.b]:=fun S g hg hm=>n4 S (by rw [←List.mem_singleton.1 hm]; exact hg)
 exact ⟨h.f2,h.fz 2 (by omega),⟨h.hb.bq 2 v',h.hd.only o2 (fun g hg hm=>n3 (by rw [←List.mem_singleton.1 hm]; exact hg)),h.hm.only o2 (fun hm=>n1 (List.mem_singleton.1 hm).symm) (fun hm=>n2 (List.mem_singleton.1 hm).symm),S.only o2 (ns S),h.ho.only o2 (ns h.ho),h.hp.only o2 (fun g hg hm=>h.hp.aH h.hb (by decide) (by decide) (by rw [←List.mem_singleton.1 hm]; exact hg)),hg,h.n2,h.n3,ho,hp,h.n6,hl⟩,o2⟩
theorem At.newC (h:At w x n c) {vo vp:Value} {lo lp:List Int} (So:Sl w 3 vo lo.length (cw lo)) (Sp:Sl w 3 vp lp.length (cw lp)) (go: ∀g∈bA vo,g∉x.fp) (gp: ∀g∈bA vp,g∉x.fp) (op: ∀g∈bA vo,g∉bA vp) (ep sl:Int):
  At ((((w.setCell ⟨x.b,3,none⟩ vo).setCell ⟨x.b,4,none⟩ vp).setCell ⟨x.b,5,none⟩ (.int .i64 ep)).setCell ⟨x.b,6,none⟩ (.int .i64 sl)) {x with ov:=vo,pv:=vp} n {c with bE:=lo,parts:=lp,ep:=ep,slot:=sl}∧
  ag [x.b] w ((((w.setCell ⟨x.b,3,none⟩ vo).setCell ⟨x.b,4,none⟩ vp).setCell ⟨x.b,5,none⟩ (.int .i64 ep)).setCell ⟨x.b,6,none⟩ (.int .i64 sl)):=by
 have o2:ag [x.b] w ((((w.setCell ⟨x.b,3,none⟩ vo).setCell ⟨x.b,4,none⟩ vp).setCell ⟨x.b,5,none⟩ (.int .i64 ep)).setCell ⟨x.b,6,none⟩ (.int .i64 sl)):=((((ag.refl [x.b] w).setCell (p:=⟨x.b,3,none⟩) (by simp) _).setCell (p:=⟨x.b,4,none⟩) (by simp) _).setCell (p:=⟨x.b,5,none⟩) (by simp) _).setCell (p:=⟨x.b,6,none⟩) (by simp) _;obtain ⟨n1,n2,n3,n4⟩:=h.Da h.hb
 have ns: ∀{v:Value} {k:Nat} {l:List Value},Sl w 3 v k l→ ∀g∈bA v,g∉[x.b]:=fun S g hg hm=>n4 S (by rw [←List.mem_singleton.1 hm]; exact hg)
 exact ⟨⟨(((h.hb.bq 3 vo).bq 4 vp).bq 5 _).bq 6 _,h.hd.only o2 (fun g hg hm=>n3 (by rw [←List.mem_singleton.1 hm]; exact hg)),h.hm.only o2 (fun hm=>n1 (List.mem_singleton.1 hm).symm) (fun hm=>n2 (List.mem_singleton.1 hm).symm),h.ht.only o2 (ns h.ht),So.only o2 (ns So),.inl (Sp.only o2 (ns Sp)),h.n1,fun hg=>go _ hg (by simp [X.fp]),fun hg=>gp _ hg (by simp [X.fp]),fun g hg hm=>go g hm (by simp [X.fp,hg]),fun g hg hm=>gp g hm (by simp [X.fp,hg]),op,h.tl⟩,o2⟩
end
end Go.Proofs.YtmonobkginiajaaGreat.Sh
namespace Go.Proofs.YtmonobkginiajaaGreat.Sh
open Go.RowKit Pk Dk Pg
def ir (t:List Int):Nat→Nat
 | 0=>0
 | k+1=>if t.getD k 0<0 then ir t k else k+1
theorem jM (t:List Int) (k:Nat):ir t (k+1)=if t.getD k 0<0 then ir t k else k+1:=rfl
theorem tG (t:List Int): ∀k,ir t k≤k
 | 0=>Nat.le_refl _
 | k+1=>by
  rw [jM]
  split
  ·have:=tG t k; omega
  ·exact Nat.le_refl _
def takeN (m:List Int):Nat→List Int×List Int
 | 0=>(m,[])
 | k+1=>((Fm.bV (takeN m k).1).1,(takeN m k).2++[(Fm.bV (takeN m k).1).2.1])
theorem mK (m:List Int): ∀k,(takeN m k).2.length=k
 | 0=>rfl
 | k+1=>by show ((takeN m k).2++_).length=_; rw [List.length_append,mK m k]; rfl
def bH (m:List Int):List Int→List Int
 | []=>m
 | p::l=>bH (Fm.cF m p).1 l
theorem yu (m:List Int) (a b:List Int):bH m (a++b)=bH (bH m a) b:=by
 induction a generalizing m with
 | nil=>rfl
 | cons p l ih=>exact ih _
def C.bz (c:C):C:={c with table:=c.table.take (ir c.table c.table.length)}
def C.aA (c:C) (n:Nat):C×Int:=
 if (Fm.eJ c.m 0).length<bP c.bz.table.length then (c.bz,11)
 else if 1099511627776≤c.ep then (c.bz,3)
 else if (({c.bz with m:=(takeN c.m (bP c.bz.table.length)).1}:C).aY n ((takeN c.m (bP c.bz.table.length)).2.map Int.toNat)).2≠0 then
  ({c.bz with m:=(takeN c.m (bP c.bz.table.length)).1,d:=(({c.bz with m:=(takeN c.m (bP c.bz.table.length)).1}:C).aY n ((takeN c.m (bP c.bz.table.length)).2.map Int.toNat)).1,broken:=true},(({c.bz with m:=(takeN c.m (bP c.bz.table.length)).1}:C).aY n ((takeN c.m (bP c.bz.table.length)).2.map Int.toNat)).2)
 else ({c.bz with m:=Fm.iP 0 1 (bH (takeN c.m (bP c.bz.table.length)).1 c.parts),d:=(({c.bz with m:=(takeN c.m (bP c.bz.table.length)).1}:C).aY n ((takeN c.m (bP c.bz.table.length)).2.map Int.toNat)).1,bE:=c.bz.table,parts:=(takeN c.m (bP c.bz.table.length)).2,ep:=c.ep+1,slot:=1-c.slot},0)
def EW (w:World) (b:Nat):Nat:=match w.cell? ⟨b,2,none⟩ with
 | some (.slice _ n _)=>n
 | _=>0
theorem EY (k:Nat):Rt.iQ (k:Nat)=(bP k:Nat):=by unfold Rt.iQ bP; omega
theorem tI (A:Option Addr) (k m c:Nat):bA (.slice A k c)=bA (.slice A m c):=by cases A<;>rfl
end Go.Proofs.YtmonobkginiajaaGreat.Sh
namespace Go.Proofs.YtmonobkginiajaaGreat.Sh
open Go.RowKit Pk Dk Pg
attribute [local go_sem ↓] Go.wp_at_zero Go.wp_at_succ
abbrev nn:=Option (Bool×List UInt8)
def je (l:List (Option (List UInt8))):List nn:=l.map fun o=>o.map fun b=>(false,b)
@[simp] theorem zR (l:List (Option (List UInt8))):(je l).length=l.length:=by simp [je]
section
variable {w w':World} {b:Nat} {nv ov:Value} {a:St} {S:List Nat}
end
end Go.Proofs.YtmonobkginiajaaGreat.Sh
namespace Go.Proofs.YtmonobkginiajaaGreat.Sh
open Go.RowKit Pk Dk Pg
attribute [local go_sem ↓] Go.wp_at_zero Go.wp_at_succ
end Go.Proofs.YtmonobkginiajaaGreat.Sh
namespace Go.Proofs.YtmonobkginiajaaGreat.Sh
open Go.RowKit Pk Dk Pg
attribute [local go_sem ↓] Go.wp_at_zero Go.wp_at_succ aX
end Go.Proofs.YtmonobkginiajaaGreat.Sh
namespace Go.Proofs.YtmonobkginiajaaGreat.Sh
open Go.RowKit Pk Dk Pg
attribute [local go_sem ↓] Go.wp_at_zero Go.wp_at_succ
def St.ar (a:St) (l:Int) (p:List UInt8):St×Int:=
 if 232<p.length then (a,4)
 else if ¬(a.at l).isSome=true then (a,3)
 else if dZ (a.at l)=false∧a.free=0 then (a,11)
 else ({a with now:=a.now.set l.toNat (some (true,dA p 232))},0)
end Go.Proofs.YtmonobkginiajaaGreat.Sh
namespace Go.Proofs.YtmonobkginiajaaGreat.Sh
open Go.RowKit Pk Dk Pg
attribute [local go_sem ↓] Go.wp_at_zero Go.wp_at_succ aX
def gU (l:List nn):Nat→Nat
 | 0=>0
 | k+1=>if ((l[k]?).getD none).isSome then k+1 else gU l k
theorem zS (l:List nn): ∀k,gU l k≤k
 | 0=>Nat.le_refl _
 | k+1=>by
  unfold gU
  split
  ·exact Nat.le_refl _
  ·have:=zS l k; omega
def St.cX (a:St):List (Option (List UInt8)):=(a.now.take (gU a.now a.now.length)).map fun o=>o.map Prod.snd
def unfr (o:nn):nn:=o.map fun x=>(false,x.2)
theorem J1 (a:St):je a.cX=(a.now.take (gU a.now a.now.length)).map unfr:=by
 unfold je St.cX;rw [List.map_map];apply List.map_congr_left;intro o _
 cases o<;>rfl
def St.aA (a:St):St×Int:=if a.free<bP a.cX.length then (a,11) else ({a with now:=je a.cX,bE:=a.cX,ep:=a.ep+1},0)
theorem tJ (a:St):a.cX.length≤a.now.length:=by
 unfold St.cX;rw [List.length_map,List.length_take];omega
end Go.Proofs.YtmonobkginiajaaGreat.Sh
namespace Go.Proofs.YtmonobkginiajaaGreat.Sh
open Go.RowKit Pk Dk Pg
attribute [local go_sem ↓] Go.wp_at_zero Go.wp_at_succ
def J2 (l:List nn) (o:List nn) (i:Nat):Bool:=((o[i]?).getD none).isSome && (!((l[i]?).getD none).isSome || dZ ((l[i]?).getD none))
def yv (l:List nn) (o:List nn):Nat→Nat
 | 0=>0
 | k+1=>yv l o k+if J2 l o k then 1 else 0
def St.leaving (a:St):Nat:=yv a.now (je a.bE) a.bE.length
end Go.Proofs.YtmonobkginiajaaGreat.Sh
