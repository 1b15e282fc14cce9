/- packed. -/
import Derived.Test.YtmonobkginiajaaGreatQ1
import Derived.Deep.QuietTactic
import Derived.BigQuiet
set_option linter.all false
set_option maxRecDepth 100000
set_option maxHeartbeats 8000000
namespace Go.Proofs.YtmonobkginiajaaGreat.Dk
open Go.RowKit
def sec (F:List UInt8) (i:Nat):List UInt8:=(F.drop (64*i)).take 64
def lay (F:List UInt8) (o:Nat) (c:List UInt8):List UInt8:=F.take o++c++F.drop (o+c.length)
def eH (F:List UInt8) (i:Nat) (c:List UInt8):List UInt8:=lay F (64*i) c
theorem fN {F:List UInt8} {o:Nat} {c:List UInt8} (h:o+c.length≤F.length):(lay F o c).length=F.length:=by
 simp [lay]; omega
theorem oR (F:List UInt8) (o:Nat) (c:List UInt8):putAt (cI F) o (cI c)=cI (lay F o c):=by
 simp [putAt,lay,cI]
theorem jH {F:List UInt8} {n i:Nat} (hF:F.length=64*n) (hi:i<n):(sec F i).length=64:=by
 simp [sec]; omega
theorem kU {F:List UInt8} {o:Nat} {c:List UInt8} (h:o+c.length≤F.length) (j:Nat):(lay F o c)[j]?=if o≤j∧j<o+c.length then c[j-o]? else F[j]?:=by
 unfold lay
 by_cases h1:j<o
 ·rw [if_neg (by omega),List.append_assoc,List.getElem?_append_left (by simp; omega),List.getElem?_take_of_lt h1]
 ·have e:(F.take o).length=o:=by simp; omega
  by_cases h2:j<o+c.length
  ·rw [if_pos ⟨by omega,h2⟩,List.append_assoc,List.getElem?_append_right (by omega),e,List.getElem?_append_left (by omega)]
  ·rw [if_neg (by omega),List.getElem?_append_right (by simp; omega),List.getElem?_drop]
   congr 1
   simp; omega
theorem sk (F:List UInt8) (i j:Nat):(sec F i)[j]?=if j<64 then F[64*i+j]? else none:=by
 unfold sec
 by_cases h:j<64
 ·rw [if_pos h,List.getElem?_take_of_lt h,List.getElem?_drop]
 ·rw [if_neg h,List.getElem?_eq_none (by simp; omega)]
theorem Ez {F c:List UInt8} {n i k:Nat} (hF:F.length=64*n) (hi:i<n) (hc:c.length=64) (_hk:k<n):sec (eH F i c) k=if i=k then c else sec F k:=by
 apply List.ext_getElem?;intro j;rw [sk];unfold eH;rw [kU (by omega)]
 by_cases hj:j<64
 ·rw [if_pos hj,hc]
  by_cases e:i=k
  ·subst e;rw [if_pos ⟨by omega,by omega⟩,if_pos rfl]
   congr 1; omega
  ·rw [if_neg (by omega),if_neg e,sk,if_pos hj]
 ·rw [if_neg hj]
  split
  ·rw [List.getElem?_eq_none (by omega)]
  ·rw [sk,if_neg hj]
def ia (s:List UInt8):List UInt8:=s.take 64++List.replicate (64-s.length) 0
theorem ib (s:List UInt8):(ia s).length=64:=by simp [ia]; omega
theorem Ga (F s:List UInt8) {n i:Nat} (hF:F.length=64*n) (hi:i<n):lay (eH F i (List.replicate 64 0)) (64*i) (s.take 64)=eH F i (ia s):=by
 have h0:(eH F i (List.replicate 64 0)).length=F.length:=fN (by simp; omega);apply List.ext_getElem?;intro j;have hz:=ib s;rw [kU (by rw [h0]; simp; omega)];unfold eH;rw [kU (by simp; omega),kU (by omega),hz];simp only [List.length_take,List.length_replicate]
 by_cases h1:64*i≤j∧j<64*i+min 64 s.length
 ·rw [if_pos h1,if_pos (by omega),ia,List.getElem?_append_left (by simp; omega)]
 ·rw [if_neg h1]
  by_cases h2:64*i≤j∧j<64*i+64
  ·rw [if_pos h2,if_pos h2,ia,List.getElem?_append_right (by simp; omega),List.getElem?_replicate,List.getElem?_replicate];simp only [List.length_take];rw [if_pos (by omega),if_pos (by omega)]
  ·rw [if_neg h2,if_neg h2]
structure D where
 now:List UInt8
 bE:List UInt8
 loose:List Bool
 aP:Int
 calls:Int
 down:Bool
structure D.Ok (d:D) (n:Nat):Prop where
 now:d.now.length=64*n
 bE:d.bE.length=64*n
 loose:d.loose.length=n
 small:n≤4096
 aP:0≤d.aP
 calls:0≤d.calls
def D.dX (d:D):Int:=if d.down then 13 else 0
def D.gI (d:D) (n:Nat) (i:Int):Int:=if d.down then 13 else if 0≤i∧i<n then 0 else 3
def D.bQ (d:D):D×Int:=
 if d.aP=0 then ({d with calls:=d.calls+1},0)
 else if d.aP=1 then ({d with calls:=d.calls+1,aP:=0,down:=true},13)
 else ({d with calls:=d.calls+1,aP:=d.aP-1,down:=false},0)
def D.fy (d:D) (i:Nat):D:=if d.loose.getD i false then d else {d with bE:=eH d.bE i (sec d.now i),loose:=d.loose.set i true}
def D.cL (d:D) (i:Nat) (s:List UInt8):D:={d.fy i with now:=eH d.now i (ia s)}
def D.ar (d:D) (n:Nat) (i:Int) (s:List UInt8):D×Int:=
 if d.gI n i=0 then (d.cL i.toNat s).bQ else (d,d.gI n i)
def D.db (d:D):D×Int:=
 if d.down then (d,13) else if d.bQ.2=0 then ({d.bQ.1 with loose:=List.replicate d.loose.length false},0) else d.bQ
theorem D.Ok.count {d:D} {n:Nat} (h:d.Ok n):(d.bQ).1.Ok n:=by
 have:=h.calls;have:=h.aP;unfold D.bQ
 split
 ·exact ⟨h.now,h.bE,h.loose,h.small,h.aP,by show 0≤d.calls+1; omega⟩
 ·split
  ·exact ⟨h.now,h.bE,h.loose,h.small,Int.le_refl 0,by show 0≤d.calls+1; omega⟩
  ·exact ⟨h.now,h.bE,h.loose,h.small,by show 0≤d.aP-1; omega,by show 0≤d.calls+1; omega⟩
theorem D.Ok.ni {d:D} {n:Nat} (h:d.Ok n) (i:Nat) (hi:i<n):(d.fy i).Ok n:=by
 unfold D.fy
 split
 ·exact h
 ·have e:=jH h.now hi;have:=h.bE;exact ⟨h.now,by show (eH d.bE i (sec d.now i)).length=_; unfold eH; rw [fN (by omega)]; exact h.bE,by show (d.loose.set i true).length=_; rw [List.length_set]; exact h.loose,h.small,h.aP,h.calls⟩
theorem D.Jh (d:D) (i:Nat):(d.fy i).now=d.now:=by unfold D.fy; split<;>rfl
theorem D.Ok.put {d:D} {n:Nat} (h:d.Ok n) (i:Nat) (s:List UInt8) (hi:i<n):(d.cL i s).Ok n:=by
 have hk:=h.ni i hi;have e:=ib s;have:=h.now;exact ⟨by show (eH d.now i (ia s)).length=_; unfold eH; rw [fN (by omega)]; exact h.now,hk.bE,hk.loose,hk.small,hk.aP,hk.calls⟩
theorem D.Ok.write {d:D} {n:Nat} (h:d.Ok n) (i:Int) (s:List UInt8):(d.ar n i s).1.Ok n:=by
 unfold D.ar
 split
 ·rename_i ha;have hi:0≤i∧i<n:=by
   unfold D.gI at ha
   split at ha
   ·cases ha
   ·split at ha
    ·assumption
    ·cases ha
  exact (h.put i.toNat s (by omega)).count
 ·exact h
theorem D.Ok.sync {d:D} {n:Nat} (h:d.Ok n):(d.db).1.Ok n:=by
 have hc:=h.count;unfold D.db
 split
 ·exact h
 ·split
  ·exact ⟨hc.now,hc.bE,by show (List.replicate d.loose.length false).length=n; simp; exact h.loose,hc.small,hc.aP,hc.calls⟩
  ·exact hc
end Go.Proofs.YtmonobkginiajaaGreat.Dk
namespace Go.Proofs.YtmonobkginiajaaGreat.Dk
open Go.RowKit
noncomputable def ED (w:World) (v:Value):Result Value:=(Instr.loadAt 152 v).run Tryz.prog w
noncomputable def EE (w:World) (a v:Value):Result Unit:=(Instr.storeAt 152 a v).run Tryz.prog w
theorem xX (ρ:Operand→Value) (dst:Option Tmp) (x:Operand) (t:TypeId) (p:String) (af:Array Edge) (g:Option (Nat×Bool)) (w:World):
  (execOp ρ {dst:=dst,op:= .load 152 x,type:=t,pos:=p,after:=af,guard:=g}).run Tryz.prog w=(ED w (ρ x)).andThen fun v w'=> .ok (.value v) w':=by
 simp only [execOp,Sem.run_bind,Sem.run_pure]; rfl
theorem xY (ρ:Operand→Value) (dst:Option Tmp) (x y:Operand) (t:TypeId) (p:String) (af:Array Edge) (g:Option (Nat×Bool)) (w:World):
  (execOp ρ {dst:=dst,op:= .store 152 x y,type:=t,pos:=p,after:=af,guard:=g}).run Tryz.prog w=(EE w (ρ x) (ρ y)).andThen fun _ w'=> .ok .skip w':=by
 simp only [execOp,Sem.run_bind,Sem.run_pure]; rfl
noncomputable def lN:Value:= .agg (cI (List.replicate 64 0)).toArray
theorem qa (ρ:Operand→Value) (dst:Option Tmp) (t:TypeId) (p:String) (af:Array Edge) (g:Option (Nat×Bool)) (w:World):
  (execOp ρ {dst:=dst,op:= .build 152 #[],type:=t,pos:=p,after:=af,guard:=g}).run Tryz.prog w= .ok (.value lN) w:=by kernel_rfl
theorem zq:Tryz.prog.underlying 152=some (.array 64 5):=Tryz.underlying152
theorem sQ:(Tryz.prog.info? 152).map (·.size)=some 64:=by kernel_rfl
theorem Ji {w:World} {g:Nat} {t:TypeId} {l:List Value} (B:ax w g t l.toArray) (o:Nat) (c:List Value) (hc:c.length=64) (h: ∀j v,c[j]?=some v→l[o+j]?=some v):
  ED w (.pointer (some ⟨g,o,none⟩))= .ok (.agg c.toArray) w:=by
 have hl:=run_loadCells_list (P:=Tryz.prog) w ⟨g,o,none⟩ c (aV B o c h);rw [hc] at hl;unfold ED Instr.loadAt;obtain ⟨i,hi,hs⟩: ∃i,Tryz.prog.info? 152=some i∧i.size=64:=by
  have:=sQ
  cases hq:Tryz.prog.info? 152 with
  | none=>rw [hq] at this; cases this
  | some i=>rw [hq] at this; exact ⟨i,rfl,by simpa using this⟩
 simp [Instr.sureAddr,loadVar,isAgg,run_underlying zq,sizeOf,typeInfo,hi,hs,hl,Result.andThen]
theorem zu {w:World} {g:Nat} {t:TypeId} {l:List Value} (B:ax w g t l.toArray) (o:Nat) (c:List Value) (hc:c.length=64) (ho:o+64≤l.length) (h1: ∀v∈c,v.oneCell'=true):
  ∃w',EE w (.pointer (some ⟨g,o,none⟩)) (.agg c.toArray)= .ok () w'∧ax w' g t (putAt l o c).toArray∧ag [g] w w':=by
 have pV:=run_storeCells_cells (P:=Tryz.prog) g o c 0 w (fun j hj=>by rw [B.cell]; simp; omega) (fun j hj=>B.frozen _ (by simp; omega)) h1;refine ⟨w.setCells g o c,?_,B.setCells c o (by omega),(ag.refl _ _).setCells c o (by simp)⟩;unfold EE Instr.storeAt;obtain ⟨i,hi,hs⟩: ∃i,Tryz.prog.info? 152=some i∧i.size=64:=by
  have:=sQ
  cases hq:Tryz.prog.info? 152 with
  | none=>rw [hq] at this; cases this
  | some i=>rw [hq] at this; exact ⟨i,rfl,by simpa using this⟩
 simp only [Nat.add_zero] at pV;simp [Instr.sureAddr,storeVar,Value.cells,sizeOf,typeInfo,hi,hs,hc,pV,Result.andThen]
end Go.Proofs.YtmonobkginiajaaGreat.Dk
namespace Go.Proofs.YtmonobkginiajaaGreat.Dk
open Go.RowKit
structure Loc where
 b:Nat
 gN:Nat
 gO:Nat
 gL:Nat
def Loc.fp (L:Loc):List Nat:=[L.b,L.gN,L.gO,L.gL]
def lA (l:List Bool):List Value:=l.map Value.bool
@[simp] theorem bools_length (l:List Bool):(lA l).length=l.length:=by simp [lA]
theorem wo (l:List Bool) (k:Nat) (h:k<l.length):(lA l)[k]?=some (.bool (l.getD k false)):=by
 simp [lA,List.getD,h]
theorem Gb (l:List Bool) (k:Nat) (x:Bool):(lA l).set k (.bool x)=lA (l.set k x):=by simp [lA]
def fields (L:Loc) (n:Nat) (d:D):Array Value:=
 #[.slice (some ⟨L.gN,0,none⟩) n n,.slice (some ⟨L.gO,0,none⟩) n n,.slice (some ⟨L.gL,0,none⟩) n n,.int .i64 d.aP,.int .i64 d.calls,.bool d.down]
structure aI (w:World) (L:Loc) (n:Nat) (d:D):Prop where
 hb:ax w L.b 149 (fields L n d)
 hN:ax w L.gN 152 (cI d.now).toArray
 hO:ax w L.gO 152 (cI d.bE).toArray
 hL:ax w L.gL 4 (lA d.loose).toArray
 ne:L.gN≠L.gO
 ok:d.Ok n
section
variable {w w':World} {L:Loc} {n:Nat} {d:D} {S:List Nat}
theorem aI.only (h:aI w L n d) (ho:ag S w w') (hd: ∀x∈L.fp,x∉S):aI w' L n d:=
 ⟨h.hb.only ho (hd _ (by simp [Loc.fp])),h.hN.only ho (hd _ (by simp [Loc.fp])),h.hO.only ho (hd _ (by simp [Loc.fp])),h.hL.only ho (hd _ (by simp [Loc.fp])),h.ne,h.ok⟩
theorem aI.below (h:aI w L n d) (hb:Below w.heap.size w w'):aI w' L n d:=h.only (S:=[]) (.ak hb) (by simp)
theorem aI.drew (h:aI w L n d):aI w.drew L n d:=⟨h.hb,h.hN,h.hO,h.hL,h.ne,h.ok⟩
theorem aI.lt (h:aI w L n d): ∀x∈L.fp,x<w.heap.size:=by
 intro x hx;simp only [Loc.fp,List.mem_cons,List.not_mem_nil,or_false] at hx
 rcases hx with rfl | rfl | rfl | rfl
 ·exact h.hb.lt
 ·exact h.hN.lt
 ·exact h.hO.lt
 ·exact h.hL.lt
theorem aI.bN (h:aI w L n d):L.b≠L.gN:=h.hb.jF h.hN (by decide)
theorem aI.bO (h:aI w L n d):L.b≠L.gO:=h.hb.jF h.hO (by decide)
theorem aI.bL (h:aI w L n d):L.b≠L.gL:=h.hb.jF h.hL (by decide)
theorem aI.LN (h:aI w L n d):L.gL≠L.gN:=h.hL.jF h.hN (by decide)
theorem aI.LO (h:aI w L n d):L.gL≠L.gO:=h.hL.jF h.hO (by decide)
theorem aI.f0 (h:aI w L n d):w.cell? ⟨L.b,0,none⟩=some (.slice (some ⟨L.gN,0,none⟩) n n):=h.hb.ab rfl
theorem aI.f1 (h:aI w L n d):w.cell? ⟨L.b,1,none⟩=some (.slice (some ⟨L.gO,0,none⟩) n n):=h.hb.ab rfl
theorem aI.f2 (h:aI w L n d):w.cell? ⟨L.b,2,none⟩=some (.slice (some ⟨L.gL,0,none⟩) n n):=h.hb.ab rfl
theorem aI.f3 (h:aI w L n d):w.cell? ⟨L.b,3,none⟩=some (.int .i64 d.aP):=h.hb.ab rfl
theorem aI.f4 (h:aI w L n d):w.cell? ⟨L.b,4,none⟩=some (.int .i64 d.calls):=h.hb.ab rfl
theorem aI.f5 (h:aI w L n d):w.cell? ⟨L.b,5,none⟩=some (.bool d.down):=h.hb.ab rfl
theorem aI.fz (h:aI w L n d) (i:Nat) (hi:i<6):w.frozen? ⟨L.b,i,none⟩=false:=h.hb.frozen i (by simpa [fields] using hi)
theorem aI.head (h:aI w L n d) {d':D} (B:ax w' L.b 149 (fields L n d')) (ho:ag [L.b] w w') (e1:d'.now=d.now) (e2:d'.bE=d.bE) (e3:d'.loose=d.loose) (dS:d'.Ok n):aI w' L n d':=by
 refine ⟨B,?_,?_,?_,h.ne,dS⟩
 ·rw [e1]; exact h.hN.only ho (by simp; exact fun e=>h.bN e.symm)
 ·rw [e2]; exact h.hO.only ho (by simp; exact fun e=>h.bO e.symm)
 ·rw [e3]; exact h.hL.only ho (by simp; exact fun e=>h.bL e.symm)
end
def dp (b:Nat):Value:= .pointer (some ⟨b,0,none⟩)
theorem fZ {w:World} {L:Loc} {n:Nat} {d:D} (h:aI w L n d):
  Calls Tryz.prog 77 #[dp L.b] w fun e w'=>e= .returned (.int .i64 d.dX)∧w=w':=by
 have f5:=h.f5;unfold dp D.dX;clear h
 cases hd:d.down
 all_goals
  rw [hd] at f5;go_enter Tryz.func77,Tryz.ntmps77
  go_wp2
  go_ret;exact ⟨rfl,rfl⟩
theorem lO {w:World} {L:Loc} {n:Nat} {d:D} (h:aI w L n d) (i:Int):
  Calls Tryz.prog 134 #[dp L.b,.int .i64 i] w fun e w'=>e= .returned (.int .i64 (d.gI n i))∧w=w':=by
 have f0:=h.f0;have hn:=h.ok.small;have K:=xh (fZ h);unfold D.dX at K;unfold D.gI;unfold dp at *;clear h
 cases hd:d.down
 ·rw [hd] at K;simp only [Bool.false_eq_true,if_false] at K ⊢
  by_cases hi:0≤i∧i<n
  ·rw [if_pos hi];obtain ⟨h0,h1⟩:=hi;go_enter Tryz.func134,Tryz.ntmps134;go_wp2_with fail;refine K.out.mono ?_;rintro e w1 ⟨rfl,rfl⟩;go_wp2_with fail;go_ret;exact ⟨rfl,rfl⟩
  ·rw [if_neg hi];have kN:i<0∨(¬i<0∧(n:Int)≤i):=by omega
   clear hi
   rcases kN with h1 | ⟨h1,h2⟩
   all_goals
    go_enter Tryz.func134,Tryz.ntmps134;go_wp2_with fail;refine K.out.mono ?_;rintro e w1 ⟨rfl,rfl⟩;go_wp2_with fail;go_ret;exact ⟨rfl,rfl⟩
 ·rw [hd] at K;simp only [if_true] at K ⊢;go_enter Tryz.func134,Tryz.ntmps134;go_wp2_with fail;refine K.out.mono ?_;rintro e w1 ⟨rfl,rfl⟩;go_wp2_with fail;go_ret;exact ⟨rfl,rfl⟩
theorem nM {w:World} {L:Loc} {n:Nat} {d:D} (h:aI w L n d) (hc:d.calls≤4000000000000000000) (ha:d.aP≤9223372036854775807):
  Calls Tryz.prog 159 #[dp L.b] w fun e w'=>e= .returned (.int .i64 d.bQ.2)∧aI w' L n d.bQ.1∧ag [L.b] w w':=by
 have f3:=h.f3;have f4:=h.f4;have z3:=h.fz 3 (by omega);have z4:=h.fz 4 (by omega);have z5:=h.fz 5 (by omega);have f5:=h.f5;have a0:=h.ok.aP;have c0:=h.ok.calls;have H:=xh h;have B:=xh h.hb;have OKC:=xh h.ok.count;clear h
 by_cases h0:d.aP=0
 ·have e1:d.bQ=({d with calls:=d.calls+1},0):=by unfold D.bQ; rw [if_pos h0]
  rw [e1];rw [e1] at OKC;rw [h0] at f3;have HA:=xh h0;clear h0 e1;unfold dp;go_enter Tryz.func159,Tryz.ntmps159;go_wp2_with fail;go_ret;have o1:ag [L.b] w (w.setCell ⟨L.b,4,none⟩ (.int .i64 (d.calls+1))):=(ag.refl _ _).setCell (by simp) _;exact ⟨rfl,H.out.head (B.out.bq 4 _) o1 rfl rfl rfl OKC.out,o1⟩
 ·by_cases h1:d.aP=1
  ·have e1:d.bQ=({d with calls:=d.calls+1,aP:=0,down:=true},13):=by unfold D.bQ; rw [if_neg h0,if_pos h1]
   rw [e1];rw [e1] at OKC;rw [h1] at f3;have o1:ag [L.b] w (((w.setCell ⟨L.b,4,none⟩ (.int .i64 (d.calls+1))).setCell ⟨L.b,3,none⟩ (.int .i64 0)).setCell ⟨L.b,5,none⟩ (.bool true)):=(((ag.refl _ _).setCell (by simp) _).setCell (by simp) _).setCell (by simp) _;have D1:=H.out.head (d':={d with calls:=d.calls+1,aP:=0,down:=true}) ((((B.out.bq 4 (.int .i64 (d.calls+1))).bq 3 (.int .i64 0)).bq 5 (.bool true))) o1 rfl rfl rfl OKC.out;have K:=xh (fZ D1);have D1:=xh D1
   have O1:=xh o1;clear h0 h1 e1 o1;unfold D.dX dp at *;go_enter Tryz.func159,Tryz.ntmps159;go_wp2_with fail;refine K.out.mono ?_;rintro e w1 ⟨rfl,rfl⟩;go_wp2_with fail;go_ret;exact ⟨rfl,D1.out,O1.out⟩
  ·have e1:d.bQ=({d with calls:=d.calls+1,aP:=d.aP-1,down:=false},0):=by unfold D.bQ; rw [if_neg h0,if_neg h1]
   rw [e1];rw [e1] at OKC;have o1:ag [L.b] w (((w.setCell ⟨L.b,4,none⟩ (.int .i64 (d.calls+1))).setCell ⟨L.b,3,none⟩ (.int .i64 (d.aP-1))).setCell ⟨L.b,5,none⟩ (.bool false)):=(((ag.refl _ _).setCell (by simp) _).setCell (by simp) _).setCell (by simp) _;have D1:=H.out.head (d':={d with calls:=d.calls+1,aP:=d.aP-1,down:=false}) ((((B.out.bq 4 (.int .i64 (d.calls+1))).bq 3 (.int .i64 (d.aP-1))).bq 5 (.bool false))) o1 rfl rfl rfl OKC.out;have K:=xh (fZ D1)
   have D1:=xh D1;have O1:=xh o1;have t0:(d.aP==0)=false:=by simpa using h0
   have t1:(d.aP-1==0)=false:=by simp; omega
   clear e1 o1;unfold D.dX dp at *;go_enter Tryz.func159,Tryz.ntmps159;go_wp2_with fail;refine K.out.mono ?_;rintro e w1 ⟨rfl,rfl⟩;go_wp2_with fail;go_ret;exact ⟨rfl,D1.out,O1.out⟩
end Go.Proofs.YtmonobkginiajaaGreat.Dk
namespace Go.Proofs.YtmonobkginiajaaGreat.Dk
open Go.RowKit
attribute [local go_sem ↓] xX xY qa
theorem wu {F:List UInt8} {k:Nat} (j:Nat) (v:Value) (h:(cI (sec F k))[j]?=some v):(cI F)[k*64+j]?=some v:=by
 rw [r8,sk] at h;rw [r8]
 split at h
 ·rw [show k*64+j=64*k+j by omega]; exact h
 ·simp at h
def D.aD (d:D) (n:Nat) (i:Int):List UInt8×Int:=if d.gI n i=0 then (sec d.now i.toNat,0) else ([],d.gI n i)
theorem Jj {d:D} {n:Nat} {i:Int} (h:d.gI n i=0):0≤i∧i<n:=by
 unfold D.gI at h
 split at h
 ·cases h
 ·split at h
  ·assumption
  ·cases h
theorem wv (d:D) (n:Nat) (i:Int):d.gI n i=0∨((d.gI n i==0)=false):=by
 by_cases h:d.gI n i=0
 ·exact .inl h
 ·exact .inr (by simpa using h)
theorem kq {w:World} {L:Loc} {n:Nat} {d:D} (h:aI w L n d) (i:Int):
  Calls Tryz.prog 79 #[dp L.b,.int .i64 i] w fun e w'=>e= .returned (.tuple #[.string ⟨(d.aD n i).1.toArray⟩,.int .i64 (d.aD n i).2])∧w=w':=by
 have K:=xh (lO h i);have hn:=h.ok.small
 rcases wv d n i with ha | ha
 ·have hi:=Jj ha;have e1:d.aD n i=(sec d.now i.toNat,0):=by unfold D.aD; rw [if_pos ha]
  rw [e1];rw [ha] at K;obtain ⟨k,rfl⟩:=Int.eq_ofNat_of_zero_le hi.1;have hk:k<n:=by omega
  have f0:=h.f0;have pV:=fun (a b:Nat) (ha:64=a) (hb:k*64=b)=>(bs (P:=Tryz.prog) w 150 9 5 Tryz.underlying150 Tryz.underlying5 Tryz.underlying9 ⟨L.gN,b,none⟩ a a (sec d.now k) (ha▸jH h.ok.now hk) (hb▸aV h.hN (k*64) _ wu));have HS:=xh (pV 64 (k*64) rfl rfl);clear pV e1 ha hi h;unfold dp at *;go_enter Tryz.func79,Tryz.ntmps79;go_wp2_with fail;refine K.out.mono ?_;rintro e w1 ⟨rfl,rfl⟩;go_wp2_with fail;rw [HS.out];go_wp2_with fail;go_ret2;exact ⟨rfl,rfl⟩
 ·have e1:d.aD n i=([],d.gI n i):=by unfold D.aD; rw [if_neg (by simpa using ha)]
  rw [e1];generalize d.gI n i=x at *;clear e1 h;unfold dp at *;go_enter Tryz.func79,Tryz.ntmps79;go_wp2_with fail;refine K.out.mono ?_;rintro e w1 ⟨rfl,rfl⟩;go_wp2_with fail;go_ret2;exact ⟨rfl,rfl⟩
theorem Gc (F:List UInt8) (s:ByteArray) {n k:Nat} (hF:F.length=64*n) (hk:k<n):
  putAt (putAt (cI F) (k*64) (cI (List.replicate 64 0))) (k*64) (cI (s.data.toList.take (Nat.min s.size 64)))=cI (eH F k (ia s.data.toList)):=by
 rw [oR,oR,←Ga F s.data.toList hF hk];have e:s.data.toList.take (Nat.min s.size 64)=s.data.toList.take 64:=by
  rcases Nat.le_total s.size 64 with h | h
  ·rw [show Nat.min s.size 64=s.size from Nat.min_eq_left h,List.take_of_length_le (by simp),List.take_of_length_le (by simpa using h)]
  ·rw [show Nat.min s.size 64=64 from Nat.min_eq_right h]
 rw [e,show k*64=64*k from Nat.mul_comm _ _];rfl
theorem kO:(Tryz.prog.info? 5).map (·.size)=some 1:=by kernel_rfl
theorem EF {w:World} {L:Loc} {n:Nat} {d:D} (h:aI w L n d) (k:Nat) (hk:k<n) (s:ByteArray):
  ∃w1,EE w (.pointer (some ⟨L.gN,k*64,none⟩)) lN= .ok () w1∧ag [L.gN] w w1∧
   ∃w2,(Builtin.copy_ #[150,9] 3 #[.slice (some ⟨L.gN,k*64,none⟩) 64 64,.string s]).run Tryz.prog w1= .ok (goInt (Nat.min s.size 64)) w2∧aI w2 L n {d with now:=eH d.now k (ia s.data.toList)}∧ag [L.gN] w w2:=by
 have hlen:=h.ok.now;obtain ⟨w1,e1,B1,o1⟩:=zu h.hN (k*64) (cI (List.replicate 64 0)) (by simp) (by simp; omega) (oK _);obtain ⟨w2,e2,B2,o2⟩:=j0 (P:=Tryz.prog) B1 150 9 3 5 (k*64) 64 64 s (Nat.min s.size 64) Tryz.underlying150 kO rfl (by rw [hX (by simp; omega)]; have hm:Nat.min s.size 64≤64:=Nat.min_le_right _ _; rw [gG,hlen]; omega);rw [Gc _ _ hlen hk] at B2;have o:=o1.trans o2
 refine ⟨w1,e1,o1,w2,e2,⟨h.hb.only o (by simp; exact h.bN),B2,h.hO.only o (by simp; exact fun e=>h.ne e.symm),h.hL.only o (by simp; exact h.LN),h.ne,?_⟩,o⟩;have:=ib s.data.toList;exact ⟨by show (eH d.now k _).length=_; unfold eH; rw [fN (by omega)]; exact hlen,h.ok.bE,h.ok.loose,h.ok.small,h.ok.aP,h.ok.calls⟩
theorem Jk {w w':World} {L:Loc} {n:Nat} {d:D} (h:aI w L n d) (o:ag [L.gN] w w'):w'.cell? ⟨L.b,0,none⟩=some (.slice (some ⟨L.gN,0,none⟩) n n):=
 (o.cell h.hb.lt (by simp; exact h.bN)).trans h.f0
theorem Gd {w:World} {L:Loc} {n:Nat} {d:D} (h:aI w L n d) (k:Nat) (hk:k<n) (s:ByteArray) (ha:d.gI n k=0) (hc:d.calls≤4000000000000000000) (hr:d.aP≤9223372036854775807) (hl:d.loose.getD k false=false):
  Calls Tryz.prog 103 #[dp L.b,.int .i64 k,.string s] w fun e w'=>e= .returned (.int .i64 ((d.cL k s.data.toList).bQ).2)∧aI w' L n ((d.cL k s.data.toList).bQ).1∧ag L.fp w w':=by
 have K:=xh (lO h k);have hn:=h.ok.small;rw [ha] at K;have f0:=h.f0;have f1:=h.f1;have f2:=h.f2;have cl:w.cell? ⟨L.gL,k,none⟩=some (.bool false):=by
  rw [←hl];refine h.hL.ab ?_;rw [List.getElem?_toArray,wo _ _ (by rw [h.ok.loose]; exact hk)]
 have sR:d.fy k={d with bE:=eH d.bE k (sec d.now k),loose:=d.loose.set k true}:=by unfold D.fy; rw [hl]; rfl
 have nN:d.cL k s.data.toList={d.fy k with now:=eH (d.fy k).now k (ia s.data.toList)}:=by unfold D.cL; rw [D.Jh]
 have DC:(d.fy k).calls=d.calls:=by rw [sR]
 have DA:(d.fy k).aP=d.aP:=by rw [sR]
 have dS:=h.ok.ni k hk;rw [nN];have hld:ED w.drew (.pointer (some ⟨L.gN,k*64,none⟩))= .ok (.agg (cI (sec d.now k)).toArray) w.drew:=Ji h.hN.drew (k*64) _ (by rw [gG,jH h.ok.now hk]) wu;obtain ⟨w2,pV,B2,o2⟩:=zu h.hO.drew (k*64) (cI (sec d.now k)) (by rw [gG,jH h.ok.now hk]) (by have:=h.ok.bE; simp; omega) (oK _);have cl2:w2.cell? ⟨L.gL,k,none⟩=some (.bool false):=(o2.cell (da cl) (by simp; exact h.LO)).trans cl
 have fl2:w2.frozen? ⟨L.gL,k,none⟩=false:=(o2.frozen (da cl) (by simp; exact h.LO)).trans (h.hL.frozen k (by simp; rw [h.ok.loose]; exact hk));have o2':ag L.fp w w2:=⟨o2.os,o2.tape,o2.output,o2.size,fun b hb hn=>o2.block b hb (by simp [Loc.fp] at hn ⊢; exact hn.2.2.1)⟩;have hD:aI (w2.setCell ⟨L.gL,k,none⟩ (.bool true)) L n (d.fy k):=by
  rw [sR] at dS ⊢;have B3:=((h.hL.drew.only o2 (by simp; exact h.LO)).bq k (.bool true));rw [List.setIfInBounds_toArray,Gb] at B3;rw [oR] at B2;refine ⟨(h.hb.drew.only o2 (by simp; exact h.bO)).aH (by exact h.bL) _,(h.hN.drew.only o2 (by simp; exact h.ne)).aH (by exact fun e=>h.LN e.symm) _,?_,B3,h.ne,dS⟩;have:=B2.aH (p:=⟨L.gL,k,none⟩) (fun e=>h.LO e.symm) (.bool true)
  rwa [show k*64=64*k from Nat.mul_comm _ _] at this
 have oD:ag L.fp w (w2.setCell ⟨L.gL,k,none⟩ (.bool true)):=o2'.setCell (by simp [Loc.fp]) _;clear sR nN dS ha B2 o2 o2' h;generalize d.fy k=d1 at *;unfold dp at *;go_enter Tryz.func103,Tryz.ntmps103;go_wp2_with fail;refine K.out.mono ?_;rintro e w1 ⟨rfl,rfl⟩;go_wp2_with fail
 go_region
 clear hld pV f0 f1 f2 cl cl2 fl2;generalize w2.setCell ⟨L.gL,k,none⟩ (.bool true)=w3 at *;have f0':=hD.f0;obtain ⟨w4,st4,o4,w5,cp5,D5,o5⟩:=EF hD k hk s;have f04:=Jk hD o4;have CP:=xh cp5;have KC:=xh (nM D5 (by rw [DC]; exact hc) (by rw [DA]; exact hr));have HD:=xh D5;have O5:=xh (oD.trans (o5.mono (S':=L.fp) (by simp [Loc.fp])));clear hD oD cp5 D5 o4 o5 DC DA;unfold dp at KC;go_wp2_with fail;rw [CP.out];go_wp2_with fail;refine KC.out.mono ?_
 rintro e w6 ⟨rfl,D6,o6⟩;go_wp2_with fail;go_ret;exact ⟨rfl,D6,O5.out.trans (o6.mono (by simp [Loc.fp]))⟩
theorem Ge {w:World} {L:Loc} {n:Nat} {d:D} (h:aI w L n d) (k:Nat) (hk:k<n) (s:ByteArray) (ha:d.gI n k=0) (hc:d.calls≤4000000000000000000) (hr:d.aP≤9223372036854775807) (hl:d.loose.getD k false=true):
  Calls Tryz.prog 103 #[dp L.b,.int .i64 k,.string s] w fun e w'=>e= .returned (.int .i64 ((d.cL k s.data.toList).bQ).2)∧aI w' L n ((d.cL k s.data.toList).bQ).1∧ag L.fp w w':=by
 have K:=xh (lO h k);have hn:=h.ok.small;rw [ha] at K;have f0:=h.f0;have f1:=h.f1;have f2:=h.f2;have cl:w.cell? ⟨L.gL,k,none⟩=some (.bool true):=by
  rw [←hl];refine h.hL.ab ?_;rw [List.getElem?_toArray,wo _ _ (by rw [h.ok.loose]; exact hk)]
 have sR:d.fy k=d:=by unfold D.fy; rw [hl]; rfl
 have nN:d.cL k s.data.toList={d with now:=eH d.now k (ia s.data.toList)}:=by unfold D.cL; rw [sR]
 rw [nN];have hD:=h;have oD:ag L.fp w w:=ag.refl _ _;have DC:d.calls=d.calls:=rfl;have DA:d.aP=d.aP:=rfl;have HDC:=xh DC;clear sR nN ha h DC DA;unfold dp at *;have f0':=hD.f0;obtain ⟨w4,st4,o4,w5,cp5,D5,o5⟩:=EF hD k hk s;have f04:=Jk hD o4;have CP:=xh cp5;have KC:=xh (nM D5 hc hr);have HD:=xh D5;have O5:=xh (oD.trans (o5.mono (S':=L.fp) (by simp [Loc.fp])));clear hD oD cp5 D5 o4 o5;unfold dp at KC;go_enter Tryz.func103,Tryz.ntmps103
 go_wp2_with fail;refine K.out.mono ?_;rintro e w1 ⟨rfl,rfl⟩;go_wp2_with fail;rw [CP.out];go_wp2_with fail;refine KC.out.mono ?_;rintro e w6 ⟨rfl,D6,o6⟩;go_wp2_with fail;go_ret;exact ⟨rfl,D6,O5.out.trans (o6.mono (by simp [Loc.fp]))⟩
end Go.Proofs.YtmonobkginiajaaGreat.Dk
namespace Go.Proofs.YtmonobkginiajaaGreat.Dk
open Go.RowKit
theorem ix {w:World} {L:Loc} {n:Nat} {d:D} (h:aI w L n d) (i:Int) (s:ByteArray) (hc:d.calls≤4000000000000000000) (hr:d.aP≤9223372036854775807):
  Calls Tryz.prog 103 #[dp L.b,.int .i64 i,.string s] w fun e w'=>e= .returned (.int .i64 (d.ar n i s.data.toList).2)∧aI w' L n (d.ar n i s.data.toList).1∧ag L.fp w w':=by
 rcases wv d n i with ha | ha
 ·have hi:=Jj ha;obtain ⟨k,rfl⟩:=Int.eq_ofNat_of_zero_le hi.1;have e1:d.ar n k s.data.toList=(d.cL k s.data.toList).bQ:=by unfold D.ar; rw [if_pos ha]; rfl
  rw [e1]
  cases hl:d.loose.getD k false
  ·exact Gd h k (by omega) s ha hc hr hl
  ·exact Ge h k (by omega) s ha hc hr hl
 ·have e1:d.ar n i s.data.toList=(d,d.gI n i):=by unfold D.ar; rw [if_neg (by simpa using ha)]
  rw [e1];have K:=xh (lO h i);have H:=xh h;generalize d.gI n i=x at *;clear e1 h;unfold dp at *;go_enter Tryz.func103,Tryz.ntmps103;go_wp2_with fail;refine K.out.mono ?_;rintro e w1 ⟨rfl,rfl⟩;go_wp2_with fail;go_ret;exact ⟨rfl,H.out,ag.refl _ _⟩
theorem vJ (z:Value) (n:Nat):(Builtin.zeroCells #[z] n).toList=List.replicate n z:=by
 unfold Builtin.zeroCells;apply List.ext_getElem
 ·simp
 ·intro i h1 h2;simp [Nat.mod_one]
theorem Gf (l c:List Value) (h:l.length=c.length):putAt l 0 c=c:=by
 simp [putAt,h]
theorem Gg {P:Program} {w:World} {g:Nat} {t T e:TypeId} {l:List Value} (B:ax w g t l.toArray) (ht:P.underlying T=some (.slice e)) {z:Value} (hz: ∀w,(zeroValue e).run P w= .ok z w) (h1:z.cells= #[z]) (gM:z.oneCell'=true) (ty:TypeId) (n c:Nat) (hn:l.length=n):
  ∃w',(Builtin.clear_ #[T] ty #[.slice (some ⟨g,0,none⟩) n c]).run P w= .ok (.tuple #[]) w'∧ax w' g t (List.replicate n z).toArray∧ag [g] w w':=by
 rcases Nat.eq_zero_or_pos n with h0 | h0
 ·subst h0;have:l=[]:=List.eq_nil_of_length_eq_zero hn;subst this;exact ⟨w,by simp [Builtin.clear_,run_underlying ht],B,ag.refl _ _⟩
 ·have pV:=run_storeCells_cells (P:=P) g 0 (List.replicate n z) 0 w (fun j hj=>by rw [B.cell]; simp at hj ⊢; omega) (fun j hj=>B.frozen _ (by simp at hj ⊢; omega)) (by intro v hv; rw [(List.mem_replicate.1 hv).2]; exact gM);refine ⟨w.setCells g 0 (List.replicate n z),?_,?_,(ag.refl _ _).setCells _ 0 (by simp)⟩
  ·obtain ⟨m,rfl⟩: ∃m,n=m+1:=⟨n-1,by omega⟩;simp only [Nat.add_zero] at pV;simp [Builtin.clear_,run_underlying ht,hz,h1,vJ,pV,Result.andThen]
  ·have:=B.setCells (List.replicate n z) 0 (by simp; omega)
   rwa [Gf _ _ (by simp; omega)] at this
theorem sS {w:World} {L:Loc} {n:Nat} {d:D} (h:aI w L n d) (hc:d.calls≤4000000000000000000) (hr:d.aP≤9223372036854775807):
  Calls Tryz.prog 104 #[dp L.b] w fun e w'=>e= .returned (.int .i64 d.db.2)∧aI w' L n d.db.1∧ag L.fp w w':=by
 have K:=xh (fZ h);have KC:=xh (nM h hc hr);have BV:=xh h.ok.sync;unfold D.dX at K
 cases hd:d.down
 ·rw [hd] at K;simp only [Bool.false_eq_true,if_false] at K
  by_cases h0:d.bQ.2=0
  ·have e1:d.db=({d.bQ.1 with loose:=List.replicate d.loose.length false},0):=by
    unfold D.db; rw [hd,if_neg (by simp),if_pos h0]
   have oN:=h.ok.loose;rw [oN] at e1;rw [e1];rw [e1] at BV;rw [h0] at KC;have Ca:d.bQ.1.loose.length=n:=by
    have:=h.ok.count.loose; exact this
   clear e1 h0 hd h oN;generalize d.bQ.1=d1 at *;unfold dp at *;go_enter Tryz.func104,Tryz.ntmps104;go_wp2_with fail;refine K.out.mono ?_;rintro e w1 ⟨rfl,rfl⟩;go_wp2_with fail;refine KC.out.mono ?_;rintro e w2 ⟨rfl,D2,o2⟩;have f2:=D2.f2;obtain ⟨w3,ec,B3,o3⟩:=Gg (P:=Tryz.prog) D2.hL Tryz.underlying65 (z:= .bool false) (fun _=>by kernel_rfl) rfl rfl 0 n n (by simpa using Ca);have EC:=xh ec;clear ec Ca;go_wp2_with fail;rw [EC.out];go_wp2_with fail;go_ret
   refine ⟨rfl,⟨D2.hb.only o3 (by simp; exact D2.bL),D2.hN.only o3 (by simp; exact fun e=>D2.LN e.symm),D2.hO.only o3 (by simp; exact fun e=>D2.LO e.symm),?_,D2.ne,BV.out⟩,(o2.mono (by simp [Loc.fp])).trans (o3.mono (by simp [Loc.fp]))⟩;simpa [lA] using B3
  ·have e1:d.db=d.bQ:=by
    unfold D.db; rw [hd,if_neg (by simp),if_neg h0]
   rw [e1];have eg:(d.bQ.2==0)=false:=by simpa using h0
   generalize d.bQ=dd at *;clear e1 h0 hd h;obtain ⟨d1,x⟩:=dd;simp only at eg KC;unfold dp at *;go_enter Tryz.func104,Tryz.ntmps104;go_wp2_with fail;refine K.out.mono ?_;rintro e w1 ⟨rfl,rfl⟩;go_wp2_with fail;refine KC.out.mono ?_;rintro e w2 ⟨rfl,D2,o2⟩;go_wp2_with fail;go_ret;exact ⟨rfl,D2,o2.mono (by simp [Loc.fp])⟩
 ·rw [hd] at K;simp only [if_true] at K;have e1:d.db=(d,13):=by unfold D.db; rw [hd,if_pos rfl]
  rw [e1];have H:=xh h;clear e1 hd h;unfold dp at *;go_enter Tryz.func104,Tryz.ntmps104;go_wp2_with fail;refine K.out.mono ?_;rintro e w1 ⟨rfl,rfl⟩;go_wp2_with fail;go_ret;exact ⟨rfl,H.out,ag.refl _ _⟩
theorem zv {w:World} {L:Loc} {n:Nat} {d:D} (h:aI w L n d):
  Calls Tryz.prog 182 #[dp L.b] w fun e w'=>e= .returned (.int .i64 n)∧w=w':=by
 have f0:=h.f0;unfold dp;go_enter Tryz.func182,Tryz.ntmps182
 go_wp2
 go_ret;exact ⟨rfl,rfl⟩
end Go.Proofs.YtmonobkginiajaaGreat.Dk
namespace Go.Proofs.YtmonobkginiajaaGreat.Dk
open Go.RowKit
attribute [local go_sem ↓] xX xY qa
def D.zero (n:Nat):D:={now:=List.replicate (64*n) 0,bE:=List.replicate (64*n) 0,loose:=List.replicate n false,aP:=0,calls:=0,down:=false}
theorem Cn:(Tryz.prog.info? 152).map (fun i=>(i.zero,i.size,i.bytes))=some (some lN,64,64):=by kernel_rfl
theorem Gh:(Tryz.prog.info? 4).map (fun i=>(i.zero,i.size,i.bytes))=some (some (.bool false),1,1):=by kernel_rfl
theorem rX (n:Nat):madeCells lN.cells (n*64)=(cI (List.replicate (64*n) 0)).toArray:=by
 have h0:lN.cells=(List.replicate 64 (Value.int .u8 0)).toArray:=by
  show (cI (List.replicate 64 0)).toArray=_;rw [cI,List.map_replicate]; rfl
 have hz: ∀k,k<64→lN.cells[k]! = .int .u8 0:=by
  intro k h;rw [h0,getElem!_pos _ k (by rw [List.size_toArray,List.length_replicate]; exact h),List.getElem_toArray,List.getElem_replicate]
 have hs:lN.cells.size=64:=by rw [h0,List.size_toArray,List.length_replicate]
 apply Array.ext
 ·simp [size_madeCells]; omega
 ·intro i h1 h2;simp only [madeCells,hs];rw [Array.getElem_map,Array.getElem_range,hz _ (Nat.mod_lt _ (by decide))];simp [cI,bv]
def dP (n:Nat):Obj:= .cells (cI (List.replicate (64*n) 0)).toArray 152
def jc (n:Nat):Obj:= .cells (lA (List.replicate n false)).toArray 4
theorem Gj (n:Nat) (hn:n≤4096) (w:World):
  (Instr.makeSlice 147 (.int .i64 n) (.int .i64 n)).run Tryz.prog w= .ok (.slice (some ⟨w.heap.size,0,none⟩) n n) (w.alloc (dP n)):=by
 obtain ⟨i0,hi,iL,gM,iw⟩:=info_parts Cn;have h:=run_make (P:=Tryz.prog) w 147 152 i0 lN Tryz.underlying147 hi iL .i64 .i64 n n (by omega) (Int.le_refl _) (by rw [iw]; omega) (by omega);rw [h,gM];simp only [Int.toNat_natCast,rX];rfl
theorem Co (n:Nat) (hn:n≤4096) (w:World):
  (Instr.makeSlice 65 (.int .i64 n) (.int .i64 n)).run Tryz.prog w= .ok (.slice (some ⟨w.heap.size,0,none⟩) n n) (w.alloc (jc n)):=by
 obtain ⟨i0,hi,iL,gM,iw⟩:=info_parts Gh;have h:=run_make (P:=Tryz.prog) w 65 4 i0 (.bool false) Tryz.underlying65 hi iL .i64 .i64 n n (by omega) (Int.le_refl _) (by rw [iw]; omega) (by omega);rw [h,gM];have e:madeCells (Value.bool false).cells (((n:Int).toNat)*1)=(lA (List.replicate n false)).toArray:=by
  show madeCells #[Value.bool false] (n*1)=_;rw [Nat.mul_one,fm]; simp [lA]
 rw [e];rfl
theorem four (w:World) (a b c d:Obj):((((w.alloc a).alloc b).alloc c).alloc d).heap[w.heap.size]?=some a∧((((w.alloc a).alloc b).alloc c).alloc d).heap[w.heap.size+1]?=some b∧((((w.alloc a).alloc b).alloc c).alloc d).heap[w.heap.size+1+1]?=some c∧((((w.alloc a).alloc b).alloc c).alloc d).heap[w.heap.size+1+1+1]?=some d:=by
 have s1:(w.alloc a).heap.size=w.heap.size+1:=by simp
 have s2:((w.alloc a).alloc b).heap.size=w.heap.size+1+1:=by simp
 have s3:(((w.alloc a).alloc b).alloc c).heap.size=w.heap.size+1+1+1:=by simp
 have e2:=heap_alloc_new (w.alloc a) b;have e3:=heap_alloc_new ((w.alloc a).alloc b) c;have e4:=heap_alloc_new (((w.alloc a).alloc b).alloc c) d;rw [s1] at e2;rw [s2] at e3;rw [s3] at e4;exact ⟨(Below.heap_alloc _ d _ (by omega)).trans ((Below.heap_alloc _ c _ (by omega)).trans ((Below.heap_alloc _ b _ (by omega)).trans (heap_alloc_new w a))),(Below.heap_alloc _ d _ (by omega)).trans ((Below.heap_alloc _ c _ (by omega)).trans e2),(Below.heap_alloc _ d _ (by omega)).trans e3,e4⟩
theorem qb (w:World) (a b c d:Obj):Below w.heap.size w ((((w.alloc a).alloc b).alloc c).alloc d).drew:=
 (((((Below.refl _ _).alloc (Nat.le_refl _) _).alloc (by simp) _).alloc (by simp; omega) _).alloc (by simp; omega) _).drew
theorem kV (n:Nat) (hn:n≤4096):(D.zero n).Ok n:=⟨by simp [D.zero],by simp [D.zero],by simp [D.zero],hn,Int.le_refl 0,Int.le_refl 0⟩
theorem xZ (n:Nat) (w:World) (h1:1≤n) (hn:n≤4096):
  Calls Tryz.prog 52 #[.int .i64 n] w fun e w'=> ∃L,e= .returned (.tuple #[dp L.b,.int .i64 0])∧aI w' L n (D.zero n)∧Below w.heap.size w w'∧(∀x∈L.fp,w.heap.size≤x):=by
 have m1:=Gj n hn;have m2:=Co n hn;go_enter Tryz.func52,Tryz.ntmps52
 go_wp2
 go_region
 all_goals go_wp2
 all_goals go_ret2
 all_goals first | exact ⟨⟨w.heap.size+1+1+1,w.heap.size,w.heap.size+1,w.heap.size+1+1⟩,rfl,⟨.of_eq (four w (dP n) (dP n) (jc n) (.cells (fields ⟨w.heap.size+1+1+1,w.heap.size,w.heap.size+1,w.heap.size+1+1⟩ n (D.zero n)) 149)).2.2.2,.of_eq (four w (dP n) (dP n) (jc n) (.cells (fields ⟨w.heap.size+1+1+1,w.heap.size,w.heap.size+1,w.heap.size+1+1⟩ n (D.zero n)) 149)).1,.of_eq (four w (dP n) (dP n) (jc n) (.cells (fields ⟨w.heap.size+1+1+1,w.heap.size,w.heap.size+1,w.heap.size+1+1⟩ n (D.zero n)) 149)).2.1,.of_eq (four w (dP n) (dP n) (jc n) (.cells (fields ⟨w.heap.size+1+1+1,w.heap.size,w.heap.size+1,w.heap.size+1+1⟩ n (D.zero n)) 149)).2.2.1,by dsimp only; omega,kV n hn⟩,qb w _ _ _ _,by simp [Loc.fp]; omega⟩ | exact ⟨⟨w.heap.size+1+1+1,w.heap.size,w.heap.size+1+1,w.heap.size+1⟩,rfl,⟨.of_eq (four w (dP n) (jc n) (dP n) (.cells (fields ⟨w.heap.size+1+1+1,w.heap.size,w.heap.size+1+1,w.heap.size+1⟩ n (D.zero n)) 149)).2.2.2,.of_eq (four w (dP n) (jc n) (dP n) (.cells (fields ⟨w.heap.size+1+1+1,w.heap.size,w.heap.size+1+1,w.heap.size+1⟩ n (D.zero n)) 149)).1,.of_eq (four w (dP n) (jc n) (dP n) (.cells (fields ⟨w.heap.size+1+1+1,w.heap.size,w.heap.size+1+1,w.heap.size+1⟩ n (D.zero n)) 149)).2.2.1,.of_eq (four w (dP n) (jc n) (dP n) (.cells (fields ⟨w.heap.size+1+1+1,w.heap.size,w.heap.size+1+1,w.heap.size+1⟩ n (D.zero n)) 149)).2.1,by dsimp only; omega,kV n hn⟩,qb w _ _ _ _,by simp [Loc.fp]; omega⟩ | exact ⟨⟨w.heap.size+1+1+1,w.heap.size+1,w.heap.size,w.heap.size+1+1⟩,rfl,⟨.of_eq (four w (dP n) (dP n) (jc n) (.cells (fields ⟨w.heap.size+1+1+1,w.heap.size+1,w.heap.size,w.heap.size+1+1⟩ n (D.zero n)) 149)).2.2.2,.of_eq (four w (dP n) (dP n) (jc n) (.cells (fields ⟨w.heap.size+1+1+1,w.heap.size+1,w.heap.size,w.heap.size+1+1⟩ n (D.zero n)) 149)).2.1,.of_eq (four w (dP n) (dP n) (jc n) (.cells (fields ⟨w.heap.size+1+1+1,w.heap.size+1,w.heap.size,w.heap.size+1+1⟩ n (D.zero n)) 149)).1,.of_eq (four w (dP n) (dP n) (jc n) (.cells (fields ⟨w.heap.size+1+1+1,w.heap.size+1,w.heap.size,w.heap.size+1+1⟩ n (D.zero n)) 149)).2.2.1,by dsimp only; omega,kV n hn⟩,qb w _ _ _ _,by simp [Loc.fp]; omega⟩ | exact ⟨⟨w.heap.size+1+1+1,w.heap.size+1,w.heap.size+1+1,w.heap.size⟩,rfl,⟨.of_eq (four w (jc n) (dP n) (dP n) (.cells (fields ⟨w.heap.size+1+1+1,w.heap.size+1,w.heap.size+1+1,w.heap.size⟩ n (D.zero n)) 149)).2.2.2,.of_eq (four w (jc n) (dP n) (dP n) (.cells (fields ⟨w.heap.size+1+1+1,w.heap.size+1,w.heap.size+1+1,w.heap.size⟩ n (D.zero n)) 149)).2.1,.of_eq (four w (jc n) (dP n) (dP n) (.cells (fields ⟨w.heap.size+1+1+1,w.heap.size+1,w.heap.size+1+1,w.heap.size⟩ n (D.zero n)) 149)).2.2.1,.of_eq (four w (jc n) (dP n) (dP n) (.cells (fields ⟨w.heap.size+1+1+1,w.heap.size+1,w.heap.size+1+1,w.heap.size⟩ n (D.zero n)) 149)).1,by dsimp only; omega,kV n hn⟩,qb w _ _ _ _,by simp [Loc.fp]; omega⟩ | exact ⟨⟨w.heap.size+1+1+1,w.heap.size+1+1,w.heap.size,w.heap.size+1⟩,rfl,⟨.of_eq (four w (dP n) (jc n) (dP n) (.cells (fields ⟨w.heap.size+1+1+1,w.heap.size+1+1,w.heap.size,w.heap.size+1⟩ n (D.zero n)) 149)).2.2.2,.of_eq (four w (dP n) (jc n) (dP n) (.cells (fields ⟨w.heap.size+1+1+1,w.heap.size+1+1,w.heap.size,w.heap.size+1⟩ n (D.zero n)) 149)).2.2.1,.of_eq (four w (dP n) (jc n) (dP n) (.cells (fields ⟨w.heap.size+1+1+1,w.heap.size+1+1,w.heap.size,w.heap.size+1⟩ n (D.zero n)) 149)).1,.of_eq (four w (dP n) (jc n) (dP n) (.cells (fields ⟨w.heap.size+1+1+1,w.heap.size+1+1,w.heap.size,w.heap.size+1⟩ n (D.zero n)) 149)).2.1,by dsimp only; omega,kV n hn⟩,qb w _ _ _ _,by simp [Loc.fp]; omega⟩ | exact ⟨⟨w.heap.size+1+1+1,w.heap.size+1+1,w.heap.size+1,w.heap.size⟩,rfl,⟨.of_eq (four w (jc n) (dP n) (dP n) (.cells (fields ⟨w.heap.size+1+1+1,w.heap.size+1+1,w.heap.size+1,w.heap.size⟩ n (D.zero n)) 149)).2.2.2,.of_eq (four w (jc n) (dP n) (dP n) (.cells (fields ⟨w.heap.size+1+1+1,w.heap.size+1+1,w.heap.size+1,w.heap.size⟩ n (D.zero n)) 149)).2.2.1,.of_eq (four w (jc n) (dP n) (dP n) (.cells (fields ⟨w.heap.size+1+1+1,w.heap.size+1+1,w.heap.size+1,w.heap.size⟩ n (D.zero n)) 149)).2.1,.of_eq (four w (jc n) (dP n) (dP n) (.cells (fields ⟨w.heap.size+1+1+1,w.heap.size+1+1,w.heap.size+1,w.heap.size⟩ n (D.zero n)) 149)).1,by dsimp only; omega,kV n hn⟩,qb w _ _ _ _,by simp [Loc.fp]; omega⟩
end Go.Proofs.YtmonobkginiajaaGreat.Dk
namespace Go.Proofs.YtmonobkginiajaaGreat.Dk
open Go.RowKit
attribute [local go_sem ↓] xX xY qa
structure Cr where
 A:Option Addr
 m:Nat
 c:Nat
 kp:Nat→Bool
 torn:Int
 bytes:Int
structure Cr.Fit (C:Cr):Prop where
 hm:C.m≤9223372036854775807
end Go.Proofs.YtmonobkginiajaaGreat.Dk
