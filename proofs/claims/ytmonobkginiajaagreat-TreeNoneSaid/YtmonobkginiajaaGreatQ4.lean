/- packed. -/
import Derived.Test.YtmonobkginiajaaGreatQ2
import Derived.Test.YtmonobkginiajaaGreatQ3
set_option linter.all false
set_option maxRecDepth 100000
set_option maxHeartbeats 8000000
namespace Go.Proofs.YtmonobkginiajaaGreat.Pg
open Go.RowKit Pk Dk
attribute [local go_sem ↓] Go.wp_at_zero Go.wp_at_succ
def bC (n:Nat):Nat:=(n-2) / 4
theorem kr {w:World} {L:Dk.Loc} {n:Nat} {d:D} (h:aI w L n d):
  Calls Tryz.prog 136 #[dp L.b] w fun e w'=>e= .returned (.int .i64 (bC n:Nat))∧w=w':=by
 have K:=xh (zv h);have hn:=h.ok.small;clear h;unfold dp at *;have e1:IntKind.i64.wrap ((n:Int)-2)=(n:Int)-2:=IntWalk.i64_in _ (by omega)
 by_cases h2:2≤n
 ·obtain ⟨m,rfl⟩: ∃m,n=m+2:=⟨n-2,by omega⟩;have e2:IntKind.i64.wrap ((((m+2:Nat):Int)-2).tdiv 4)=((bC (m+2):Nat):Int):=by
   have:(((m+2:Nat):Int)-2)=(m:Int):=by omega
   rw [this,Int.tdiv_eq_ediv_of_nonneg (by omega),IntWalk.i64_in _ (by omega)];unfold bC; omega
  have h3: ¬((m+2:Nat):Int)-2<0:=by omega
  have HM:=xh (show ((bC (m+2):Nat):Int)=(m:Int) / 4 from by unfold bC; omega);go_enter Tryz.func136,Tryz.ntmps136;go_wp2_with fail;refine K.out.mono ?_;rintro e w1 ⟨rfl,rfl⟩;go_wp2_with fail
  all_goals
   go_ret;refine ⟨?_,rfl⟩;rw [HM.out]
   first | (simp; done) | (simp; omega)
 ·have h3:(n:Int)-2<0:=by omega
  have HM:=xh (show ((bC n:Nat):Int)=0 from by unfold bC; omega);go_enter Tryz.func136,Tryz.ntmps136;go_wp2_with fail;refine K.out.mono ?_;rintro e w1 ⟨rfl,rfl⟩;go_wp2_with fail;go_ret;refine ⟨?_,rfl⟩;rw [HM.out]
  first | (simp; done) | (simp; omega)
def lP (k:Nat):List Value:=[.int .i64 (k:Nat),.int .i64 ((k:Int)+1),.int .i64 ((k:Int)+2),.int .i64 ((k:Int)+3)]
def kg (k i:Nat):List Value:=(lP k).take i++List.replicate (4-i) (.int .i64 0)
theorem cJ {fn:Func} {p:Tmp} {ty:TypeId} (h:fn.results= #[.cell p ty]) (tmps:Array Value) (P:Program) (w:World):
  (results fn tmps).run P w=((asAddr (tmps.getD p undef)).run P w).andThen fun a w₁=>(loadVar ty a).run P w₁:=by
 simp only [results,h];simp [Sem.run_bind,Result.andThen]
theorem Jl {fn:Func} {p:Tmp} {w:World} {g:Nat} {a b c d:Int} {tmps:Array Value} (h:fn.results= #[.cell p 244]) (hp:tmps.getD p undef= .pointer (some ⟨g,0,none⟩)) (B:ax w g 244 #[.int .i64 a,.int .i64 b,.int .i64 c,.int .i64 d]):
  (results fn tmps).run Tryz.prog w= .ok (.agg #[.int .i64 a,.int .i64 b,.int .i64 c,.int .i64 d]) w:=by
 have c0:=B.ab (i:=0) rfl;have c1:=B.ab (i:=1) rfl;have c2:=B.ab (i:=2) rfl;have c3:=B.ab (i:=3) rfl;rw [cJ h,hp];clear h hp B;go_simp
theorem kW {w:World} (id:Nat) (h:id≤1023):
  Calls Tryz.prog 184 #[.int .i64 (id:Nat)] w fun e w'=>e= .returned (.agg (lP (2+4*id)).toArray)∧Below w.heap.size w w':=by
 have e1:IntKind.i64.wrap ((id:Int)*4)=(id:Int)*4:=IntWalk.i64_in _ (by omega);have e2:IntKind.i64.wrap (2+(id:Int)*4)=2+(id:Int)*4:=IntWalk.i64_in _ (by omega);have Z: ∀i:Nat,i≤3→IntKind.i64.wrap (2+(id:Int)*4+(i:Int))=2+(id:Int)*4+(i:Int):=fun i hi=>IntWalk.i64_in _ (by omega);have y0:=Z 0 (by omega);have y1:=Z 1 (by omega);have y2:=Z 2 (by omega);have y3:=Z 3 (by omega);clear Z;have q0:Value.int .i64 (2+(id:Int)*4)= .int .i64 ((2+4*id:Nat):Int):=by congr 1; omega
 have q1:Value.int .i64 (2+(id:Int)*4+1)= .int .i64 (((2+4*id:Nat):Int)+1):=by congr 1; omega
 have q2:Value.int .i64 (2+(id:Int)*4+2)= .int .i64 (((2+4*id:Nat):Int)+2):=by congr 1; omega
 have q3:Value.int .i64 (2+(id:Int)*4+3)= .int .i64 (((2+4*id:Nat):Int)+3):=by congr 1; omega
 have Q:=xh (And.intro q0 (And.intro q1 (And.intro q2 q3)));clear q0 q1 q2 q3;have B0:=xh ((ax.new w 244 #[.int .i64 0,.int .i64 0,.int .i64 0,.int .i64 0]).alloc (.cells #[.int .i64 0,.int .i64 0,.int .i64 0,.int .i64 0] 244));have C0:=ax.new (w.alloc (.cells #[.int .i64 0,.int .i64 0,.int .i64 0,.int .i64 0] 244)) 244 #[.int .i64 0,.int .i64 0,.int .i64 0,.int .i64 0]
 rw [show (w.alloc (.cells #[.int .i64 0,.int .i64 0,.int .i64 0,.int .i64 0] 244)).heap.size=w.heap.size+1 from by simp] at C0;have C0:=xh C0;have O0:=xh (ae (ae (Below.refl w.heap.size w) (.cells #[.int .i64 0,.int .i64 0,.int .i64 0,.int .i64 0] 244)) (.cells #[.int .i64 0,.int .i64 0,.int .i64 0,.int .i64 0] 244));go_enter Tryz.func184,Tryz.ntmps184;go_wp2_with fail
 go_loopw [5] (fun iv wr=> ∃i:Nat,i≤4∧iv= .int .i64 i∧Hid (ax wr (w.heap.size+1) 244 (kg (2+4*id) i).toArray)∧Hid (ax wr w.heap.size 244 #[.int .i64 0,.int .i64 0,.int .i64 0,.int .i64 0])∧Hid (Below w.heap.size w wr)) (fun iv _=>4-(intOf iv).toNat)
 case atStart=>exact ⟨0,by omega,rfl,C0,B0,O0⟩
 case round=>
  obtain ⟨i,hi,rfl,C,B,O⟩:=hrel;have ii:i=0∨i=1∨i=2∨i=3∨i=4:=by omega
  have z0:=C.out.frozen 0 (by rcases ii with rfl | rfl | rfl | rfl | rfl<;>simp [kg,lP]);have z1:=C.out.frozen 1 (by rcases ii with rfl | rfl | rfl | rfl | rfl<;>simp [kg,lP]);have z2:=C.out.frozen 2 (by rcases ii with rfl | rfl | rfl | rfl | rfl<;>simp [kg,lP]);have z3:=C.out.frozen 3 (by rcases ii with rfl | rfl | rfl | rfl | rfl<;>simp [kg,lP])
  rcases ii with rfl | rfl | rfl | rfl | rfl
  ·have c0:=C.out.ab (i:=0) (v:= .int .i64 0) rfl;have C2:=xh (show ax (wr.setCell ⟨w.heap.size+1,0,none⟩ (.int .i64 (2+(id:Int)*4))) (w.heap.size+1) 244 (kg (2+4*id) 1).toArray from by
    have h:=C.out.bq 0 (.int .i64 (2+(id:Int)*4));rw [Q.out.1] at h ⊢;exact h)
   have B2:=xh (B.out.aH (p:=⟨w.heap.size+1,0,none⟩) (by simp) (.int .i64 (2+(id:Int)*4)));have O2:=xh (O.out.setCell (p:=⟨w.heap.size+1,0,none⟩) (by simp) (.int .i64 (2+(id:Int)*4)));go_wp2_with fail;go_roundw
   case rel=>exact ⟨1,by omega,by first | rfl | simp,C2,B2,O2⟩
   case measure=>first | decide | simp [intOf]
  ·have c0:=C.out.ab (i:=1) (v:= .int .i64 0) rfl;have C2:=xh (show ax (wr.setCell ⟨w.heap.size+1,1,none⟩ (.int .i64 (2+(id:Int)*4+1))) (w.heap.size+1) 244 (kg (2+4*id) 2).toArray from by
    have h:=C.out.bq 1 (.int .i64 (2+(id:Int)*4+1));rw [Q.out.2.1] at h ⊢;exact h)
   have B2:=xh (B.out.aH (p:=⟨w.heap.size+1,1,none⟩) (by simp) (.int .i64 (2+(id:Int)*4+1)));have O2:=xh (O.out.setCell (p:=⟨w.heap.size+1,1,none⟩) (by simp) (.int .i64 (2+(id:Int)*4+1)));go_wp2_with fail;go_roundw
   case rel=>exact ⟨2,by omega,by first | rfl | simp,C2,B2,O2⟩
   case measure=>first | decide | simp [intOf]
  ·have c0:=C.out.ab (i:=2) (v:= .int .i64 0) rfl;have C2:=xh (show ax (wr.setCell ⟨w.heap.size+1,2,none⟩ (.int .i64 (2+(id:Int)*4+2))) (w.heap.size+1) 244 (kg (2+4*id) 3).toArray from by
    have h:=C.out.bq 2 (.int .i64 (2+(id:Int)*4+2));rw [Q.out.2.2.1] at h ⊢;exact h)
   have B2:=xh (B.out.aH (p:=⟨w.heap.size+1,2,none⟩) (by simp) (.int .i64 (2+(id:Int)*4+2)));have O2:=xh (O.out.setCell (p:=⟨w.heap.size+1,2,none⟩) (by simp) (.int .i64 (2+(id:Int)*4+2)));go_wp2_with fail;go_roundw
   case rel=>exact ⟨3,by omega,by first | rfl | simp,C2,B2,O2⟩
   case measure=>first | decide | simp [intOf]
  ·have c0:=C.out.ab (i:=3) (v:= .int .i64 0) rfl;have C2:=xh (show ax (wr.setCell ⟨w.heap.size+1,3,none⟩ (.int .i64 (2+(id:Int)*4+3))) (w.heap.size+1) 244 (kg (2+4*id) 4).toArray from by
    have h:=C.out.bq 3 (.int .i64 (2+(id:Int)*4+3));rw [Q.out.2.2.2] at h ⊢;exact h)
   have B2:=xh (B.out.aH (p:=⟨w.heap.size+1,3,none⟩) (by simp) (.int .i64 (2+(id:Int)*4+3)));have O2:=xh (O.out.setCell (p:=⟨w.heap.size+1,3,none⟩) (by simp) (.int .i64 (2+(id:Int)*4+3)));go_wp2_with fail;go_roundw
   case rel=>exact ⟨4,by omega,by first | rfl | simp,C2,B2,O2⟩
   case measure=>first | decide | simp [intOf]
  ·have c0:=C.out.ab (i:=0) rfl;have c1:=C.out.ab (i:=1) rfl;have c2:=C.out.ab (i:=2) rfl;have c3:=C.out.ab (i:=3) rfl;have b0:=B.out.ab (i:=0) rfl;have b1:=B.out.ab (i:=1) rfl;have b2:=B.out.ab (i:=2) rfl;have b3:=B.out.ab (i:=3) rfl;have x0:=B.out.frozen 0 (by simp);have x1:=B.out.frozen 1 (by simp);have x2:=B.out.frozen 2 (by simp);have x3:=B.out.frozen 3 (by simp)
   have ZB:=xh ((((B.out.bq 0 (.int .i64 ((2+4*id:Nat):Int))).bq 1 (.int .i64 (((2+4*id:Nat):Int)+1))).bq 2 (.int .i64 (((2+4*id:Nat):Int)+2))).bq 3 (.int .i64 (((2+4*id:Nat):Int)+3)))
   have ZO:=xh ((((O.out.setCell (p:=⟨w.heap.size,0,none⟩) (Nat.le_refl _) (.int .i64 ((2+4*id:Nat):Int))).setCell (p:=⟨w.heap.size,1,none⟩) (Nat.le_refl _) (.int .i64 (((2+4*id:Nat):Int)+1))).setCell (p:=⟨w.heap.size,2,none⟩) (Nat.le_refl _) (.int .i64 (((2+4*id:Nat):Int)+2))).setCell (p:=⟨w.heap.size,3,none⟩) (Nat.le_refl _) (.int .i64 (((2+4*id:Nat):Int)+3)))
   simp only [kg,lP,Nat.sub_self,List.replicate_zero,List.append_nil,List.take_of_length_le,List.length_cons,List.length_nil,Nat.le_refl,List.getElem_cons_zero,List.getElem_cons_succ,List.getElem_toArray] at c0 c1 c2 c3;generalize hKK:((2+4*id:Nat):Int)=K at *;have HKK:=xh hKK;clear hKK;go_wp2_with fail;exact bodyPost_ret (Jl rfl rfl ZB.out) rfl ⟨by unfold lP; rw [HKK.out],ZO.out⟩
end Go.Proofs.YtmonobkginiajaaGreat.Pg
namespace Go.Proofs.YtmonobkginiajaaGreat.Pg
open Go.RowKit Pk Dk
attribute [local go_sem ↓] Go.wp_at_zero Go.wp_at_succ
theorem qc (d:D) (h:d.aP≤9223372036854775807):d.bQ.1.calls=d.calls+1∧d.bQ.1.aP≤9223372036854775807:=by
 unfold D.bQ
 split
 ·exact ⟨rfl,h⟩
 ·split
  ·exact ⟨rfl,by show (0:Int)≤_; omega⟩
  ·exact ⟨rfl,by show d.aP-1≤_; omega⟩
theorem sU (d:D) (i:Nat):(d.fy i).calls=d.calls∧(d.fy i).aP=d.aP:=by unfold D.fy; split<;>exact ⟨rfl,rfl⟩
theorem gf (d:D) (n:Nat) (i:Int) (s:List UInt8) (h:d.aP≤9223372036854775807):(d.ar n i s).1.calls≤d.calls+1∧(d.ar n i s).1.aP≤9223372036854775807:=by
 unfold D.ar
 split
 ·have h1:(d.cL i.toNat s).calls=d.calls:=(sU d i.toNat).1;have h2:(d.cL i.toNat s).aP=d.aP:=(sU d i.toNat).2;have:=qc (d.cL i.toNat s) (by omega);omega
 ·exact ⟨by show d.calls≤_; omega,h⟩
def w4 (d:D) (n k:Nat) (b:List UInt8):Nat→D×Int
 | 0=>(d,0)
 | i+1=>if (w4 d n k b i).2=0 then (w4 d n k b i).1.ar n ((k:Int)+i) ((b.drop (64*i)).take 64) else w4 d n k b i
theorem Jm (d:D) (n k:Nat) (b:List UInt8) (i:Nat) (h:(w4 d n k b i).2=0):w4 d n k b (i+1)=(w4 d n k b i).1.ar n ((k:Int)+i) ((b.drop (64*i)).take 64):=by
 show (if _ then _ else _)=_;rw [if_pos h]
theorem EG (d:D) (n k:Nat) (b:List UInt8) (i j:Nat) (h:(w4 d n k b i).2≠0) (hj:i≤j):w4 d n k b j=w4 d n k b i:=by
 induction j with
 | zero=>rw [show i=0 by omega]
 | succ j ih=>
  by_cases e:i=j+1
  ·rw [e]
  ·have:=ih (by omega);show (if _ then _ else _)=_;rw [this,if_neg h]
theorem Jn (d:D) (n k:Nat) (b:List UInt8) (h:d.aP≤9223372036854775807): ∀i,(w4 d n k b i).1.calls≤d.calls+i∧(w4 d n k b i).1.aP≤9223372036854775807
 | 0=>⟨by simp [w4],h⟩
 | i+1=>by
  obtain ⟨h1,h2⟩:=Jn d n k b h i;unfold w4
  split
  ·have:=gf (w4 d n k b i).1 n ((k:Int)+i) ((b.drop (64*i)).take 64) h2;omega
  ·omega
theorem sV {d:D} {n:Nat} (h:d.Ok n) (k:Nat) (b:List UInt8): ∀i,(w4 d n k b i).1.Ok n
 | 0=>h
 | i+1=>by
  unfold w4
  split
  ·exact (sV h k b i).write _ _
  ·exact sV h k b i
def aO (d:D) (n:Nat) (id ep kd:Int) (s:List UInt8):D×Int:=
 if (cL id ep kd s).2≠0 then (d,(cL id ep kd s).2)
 else if (bC n:Int)≤id then (d,3)
 else w4 d n (2+4*id.toNat) (cL id ep kd s).1 4
theorem mD (d:D) (n:Nat) (id ep kd:Int) (s:List UInt8) (h:d.aP≤9223372036854775807):(aO d n id ep kd s).1.calls≤d.calls+4∧(aO d n id ep kd s).1.aP≤9223372036854775807:=by
 unfold aO
 split
 ·exact ⟨by show d.calls≤_; omega,h⟩
 ·split
  ·exact ⟨by show d.calls≤_; omega,h⟩
  ·exact Jn d n _ _ h 4
theorem sW {id ep kd:Int} {s:List UInt8} (h:(cL id ep kd s).2=0):(cL id ep kd s).1.length=256∧Cm id ep kd=true:=by
 unfold cL at h ⊢
 split at h
 ·rename_i dS;rw [if_pos dS]
  split at h
  ·simp at h
  ·rename_i hs;rw [if_neg hs];have h1:(dA (iO id ep kd s) 252).length=252:=by
    have:(iO id ep kd s).length=20+s.length:=by unfold iO; simp [ev,kT]; omega
    unfold dA; rw [List.length_append,List.length_replicate]; omega
   refine ⟨?_,dS⟩;show (iq id ep kd s).length=256;unfold iq gx.aY;rw [List.length_append,h1]; simp [gx.gi]
 ·simp at h
theorem wy {w:World} {L:Dk.Loc} {n:Nat} {d:D} (h:aI w L n d) (id ep kd:Int) (s:ByteArray) (hid:id≤9223372036854775807) (he:(cL id ep kd s.data.toList).2≠0∨(bC n:Int)≤id):
  Calls Tryz.prog 225 #[dp L.b,gl id ep kd s] w fun e w'=>e= .returned (.int .i64 (aO d n id ep kd s.data.toList).2)∧aI w' L n (aO d n id ep kd s.data.toList).1∧Below w.heap.size w w':=by
 have O0:=xh (ae (Below.refl w.heap.size w) (.cells #[.int .i64 id,.int .i64 ep,.int .i64 kd,.string s] 162));have B0:=xh (ax.new w 162 #[.int .i64 id,.int .i64 ep,.int .i64 kd,.string s]);have K:=xh (fun w=>zo (w:=w) id ep kd s hid);have KM:=xh (fun w' (hb:Below w.heap.size w w')=>kr (h.below hb));have HD:=xh h;have c0:=B0.out.ab (i:=0) rfl;have c1:=B0.out.ab (i:=1) rfl;have c2:=B0.out.ab (i:=2) rfl
 have c3:=B0.out.ab (i:=3) rfl;have wB:((cL id ep kd s.data.toList).2≠0∧aO d n id ep kd s.data.toList=(d,(cL id ep kd s.data.toList).2))∨((cL id ep kd s.data.toList).2=0∧(bC n:Int)≤id∧aO d n id ep kd s.data.toList=(d,3)):=by
  by_cases h1:(cL id ep kd s.data.toList).2=0
  ·have h2:=he.resolve_left (fun h=>h h1);right;refine ⟨h1,h2,?_⟩;unfold aO; rw [if_neg (by simpa using h1),if_pos h2]
  ·left;refine ⟨h1,?_⟩;unfold aO; rw [if_pos h1]
 generalize (cL id ep kd s.data.toList).2=er at *;generalize (⟨(cL id ep kd s.data.toList).1.toArray⟩:ByteArray)=S at *;generalize aO d n id ep kd s.data.toList=R at *;generalize bC n=mn at *;clear h he;unfold gl dp at *
 rcases wB with ⟨h1,h2⟩ | ⟨h1,h3,h2⟩
 ·subst h2;have hb:(er != 0)=true:=by rw [bne_iff_ne]; exact h1
  go_enter Tryz.func225,Tryz.ntmps225;go_wp2_with fail;refine (K.out _).mono ?_;rintro e w1 ⟨rfl,aM⟩;have O1:=xh (ao O0.out aM);clear aM;go_wp2_with fail;go_ret;exact ⟨rfl,HD.out.below O1.out,O1.out⟩
 ·subst h2;subst h1;go_enter Tryz.func225,Tryz.ntmps225;go_wp2_with fail;refine (K.out _).mono ?_;rintro e w1 ⟨rfl,aM⟩;have O1:=xh (ao O0.out aM);have B1:=xh (B0.out.below aM B0.out.lt);clear aM c0 c1 c2 c3;have c0:=B1.out.ab (i:=0) rfl;go_wp2_with fail;have KX:=xh (fun m=>KM.out (w1.drewN m) (cQ O1.out m));go_quiet ((go_at_call 136; exact sN (KX.out _)));go_wp2_with fail;go_ret;exact ⟨rfl,HD.out.below (cQ O1.out _),cQ O1.out _⟩
end Go.Proofs.YtmonobkginiajaaGreat.Pg
namespace Go.Proofs.YtmonobkginiajaaGreat.Pg
open Go.RowKit Pk Dk
attribute [local go_sem ↓] Go.wp_at_zero Go.wp_at_succ
theorem x6 (a0 a1 a2 a3:Int) (w:World) (k:Nat) (x:Value) (hx: #[Value.int .i64 a0,.int .i64 a1,.int .i64 a2,.int .i64 a3][k]?=some x):
  (Instr.index 244 (.agg #[.int .i64 a0,.int .i64 a1,.int .i64 a2,.int .i64 a3]) (.int .i64 (k:Int))).run Tryz.prog w= .ok x w:=by
 have hu:Tryz.prog.underlying 244=some (.array 4 3):=by kernel_rfl
 have hm:(Tryz.prog.info? 3).map (·.size)=some 1:=by kernel_rfl
 have hp:Tryz.prog.plainKey 3=true:=by kernel_rfl
 have hk:k<4:=by
  rcases Nat.lt_or_ge k 4 with h | h
  ·exact h
  ·rw [Array.getElem?_eq_none (by simpa using h)] at hx; cases hx
 cases hq:Tryz.prog.info? 3 with
 | none=>simp [hq] at hm
 | some i=>
  simp only [hq,Option.map_some,Option.some.injEq] at hm;have:=run_part_plain (P:=Tryz.prog) w hp hx;simp [Instr.index,asIntOf,run_underlying hu,hk,sizeOf,typeInfo,hq,hm];exact this
theorem Cp {w:World} {L:Dk.Loc} {n:Nat} {d:D} (h:aI w L n d) (id:Nat) (ep kd:Int) (s:ByteArray) (hp:(cL id ep kd s.data.toList).2=0) (hm:id<bC n) (hc:d.calls≤3999999999999999990) (hr:d.aP≤9223372036854775807):
  Calls Tryz.prog 225 #[dp L.b,gl id ep kd s] w fun e w'=>e= .returned (.int .i64 (w4 d n (2+4*id) (cL id ep kd s.data.toList).1 4).2)∧aI w' L n (w4 d n (2+4*id) (cL id ep kd s.data.toList).1 4).1∧ag L.fp w w':=by
 have hn:=h.ok.small;have hmn:bC n≤1023:=by unfold bC; omega
 have O0:=xh (ae (Below.refl w.heap.size w) (.cells #[.int .i64 (id:Nat),.int .i64 ep,.int .i64 kd,.string s] 162));have B0:=xh (ax.new w 162 #[.int .i64 (id:Nat),.int .i64 ep,.int .i64 kd,.string s]);have K:=fun w=>zo (w:=w) id ep kd s (by omega);have hlen:=(sW hp).1;rw [hp] at K;obtain ⟨T,hT⟩: ∃T:ByteArray,(⟨(cL id ep kd s.data.toList).1.toArray⟩:ByteArray)=T:=⟨_,rfl⟩;rw [hT] at K;have BU:T.data.toList=(cL id ep kd s.data.toList).1:=by rw [←hT]
 have hTs:T.size=256:=by rw [←hT,fL,hlen]
 rw [←BU];have HX:=xh (show ∀i:Nat,(T.extract (64*i) (64*(i+1))).data.toList=(T.data.toList.drop (64*i)).take 64 from fun i=>by rw [exl,show 64*(i+1)-64*i=64 by omega]);have K:=xh K;have KM:=xh (fun w' (hb:Below w.heap.size w w')=>kr (h.below hb));have KS:=xh (fun w=>kW (w:=w) id (by omega));have HB:=xh (Jn d n (2+4*id) T.data.toList hr);have H4:=xh (Jm d n (2+4*id) T.data.toList);have HS:=xh (EG d n (2+4*id) T.data.toList)
 have HC:=xh hc;have HD:=xh h;have hmI: ¬((bC n:Nat):Int)≤(id:Int):=by omega
 have c0:=B0.out.ab (i:=0) rfl;have c1:=B0.out.ab (i:=1) rfl;have c2:=B0.out.ab (i:=2) rfl;have c3:=B0.out.ab (i:=3) rfl;generalize bC n=mn at *;clear h hp hT BU hlen hc hr;unfold gl dp lP at *;generalize hk:2+4*id=k at *;clear hk;go_enter Tryz.func225,Tryz.ntmps225;go_wp2_with fail;refine (K.out _).mono ?_;rintro e w1 ⟨rfl,aM⟩;have O1:=xh (ao O0.out aM);have B1:=xh (B0.out.below aM B0.out.lt);clear aM c0 c1 c2 c3 K
 have c0:=B1.out.ab (i:=0) rfl;have KX:=xh (fun m=>KM.out (w1.drewN m) (cQ O1.out m));go_wp2_with fail;go_quiet ((go_at_call 136; exact sN (KX.out _)));have O2:=xh (cQ O1.out nq);have B2:=xh (B1.out.drewN nq);generalize sX:w1.drewN nq=w2 at *;clear c0 O1 B1 sX KX KM;have c0:=B2.out.ab (i:=0) rfl;go_wp2_with fail;refine (KS.out _).mono ?_;rintro e w3 ⟨rfl,eG⟩;have O3:=xh (ao O2.out eG);have D3:=xh (HD.out.below O3.out)
 clear eG c0 KS O2 B2;go_wp2_with fail
 go_loopw [30] (fun iv wr=> ∃i:Nat,i≤4∧iv= .int .i64 i∧Hid (aI wr L n (w4 d n k T.data.toList i).1)∧Hid ((w4 d n k T.data.toList i).2=0)∧Hid (ag L.fp w wr)) (fun iv _=>4-(intOf iv).toNat)
 case atStart=>exact ⟨0,by omega,rfl,D3,xh rfl,xh (.ak O3.out)⟩
 case round=>
  obtain ⟨i,hi,rfl,DD,EZ,O⟩:=hrel;have ii:i=0∨i=1∨i=2∨i=3∨i=4:=by omega
  rcases ii with rfl | rfl | rfl | rfl | rfl
  ·have bd:=HB.out 0;have KW:=ix DD.out ((k:Int)) (T.extract 0 64) (by have:=HC.out; omega) (by omega);have hx:=HX.out 0;have h4:=H4.out 0 EZ.out;rw [show (T.extract 0 64).data.toList=(T.data.toList.drop (64*0)).take 64 from hx,show ((k:Int))=(k:Int)+((0:Nat):Int) from by omega,←h4,show (k:Int)+((0:Nat):Int)=(k:Int) from by omega] at KW;have KW:=xh KW;clear hx h4 bd
   have IX:=xh (show (Instr.index 244 (.agg #[.int .i64 (k:Int),.int .i64 ((k:Int)+1),.int .i64 ((k:Int)+2),.int .i64 ((k:Int)+3)]) (.int .i64 0)).run Tryz.prog wr= .ok (.int .i64 ((k:Int))) wr from x6 (k:Int) ((k:Int)+1) ((k:Int)+2) ((k:Int)+3) wr 0 _ rfl);go_wp2_with fail;rw [IX.out];go_wp2_with fail;refine KW.out.mono ?_;rintro e wz ⟨rfl,dd,oz⟩;have DZ:=xh dd;have OZ:=xh (O.out.trans oz);clear dd oz KW
   by_cases hz:(w4 d n k T.data.toList 1).2=0
   ·have HZ:=xh hz;have hq:((w4 d n k T.data.toList 1).2 != 0)=false:=by rw [hz]; rfl
    clear hz;go_wp2_with fail;go_roundw
    case rel=>exact ⟨1,by omega,by first | rfl | simp,DZ,HZ,OZ⟩
    case measure=>first | decide | simp [intOf]
   ·have hs:=HS.out 1 4 hz (by omega);have Jo:=xh hs;have hq:((w4 d n k T.data.toList 1).2 != 0)=true:=by rw [bne_iff_ne]; exact hz
    clear hz hs;go_wp2_with fail;go_ret;exact ⟨by first | rfl | (rw [Jo.out]; rfl),by first | exact DZ.out | (rw [Jo.out]; exact DZ.out),OZ.out⟩
  ·have bd:=HB.out 1;have KW:=ix DD.out ((k:Int)+1) (T.extract 64 128) (by have:=HC.out; omega) (by omega);have hx:=HX.out 1;have h4:=H4.out 1 EZ.out;rw [show (T.extract 64 128).data.toList=(T.data.toList.drop (64*1)).take 64 from hx,show ((k:Int)+1)=(k:Int)+((1:Nat):Int) from by omega,←h4,show (k:Int)+((1:Nat):Int)=(k:Int)+1 from by omega] at KW;have KW:=xh KW;clear hx h4 bd
   have IX:=xh (show (Instr.index 244 (.agg #[.int .i64 (k:Int),.int .i64 ((k:Int)+1),.int .i64 ((k:Int)+2),.int .i64 ((k:Int)+3)]) (.int .i64 1)).run Tryz.prog wr= .ok (.int .i64 ((k:Int)+1)) wr from x6 (k:Int) ((k:Int)+1) ((k:Int)+2) ((k:Int)+3) wr 1 _ rfl);go_wp2_with fail;rw [IX.out];go_wp2_with fail;refine KW.out.mono ?_;rintro e wz ⟨rfl,dd,oz⟩;have DZ:=xh dd;have OZ:=xh (O.out.trans oz);clear dd oz KW
   by_cases hz:(w4 d n k T.data.toList 2).2=0
   ·have HZ:=xh hz;have hq:((w4 d n k T.data.toList 2).2 != 0)=false:=by rw [hz]; rfl
    clear hz;go_wp2_with fail;go_roundw
    case rel=>exact ⟨2,by omega,by first | rfl | simp,DZ,HZ,OZ⟩
    case measure=>first | decide | simp [intOf]
   ·have hs:=HS.out 2 4 hz (by omega);have Jo:=xh hs;have hq:((w4 d n k T.data.toList 2).2 != 0)=true:=by rw [bne_iff_ne]; exact hz
    clear hz hs;go_wp2_with fail;go_ret;exact ⟨by first | rfl | (rw [Jo.out]; rfl),by first | exact DZ.out | (rw [Jo.out]; exact DZ.out),OZ.out⟩
  ·have bd:=HB.out 2;have KW:=ix DD.out ((k:Int)+2) (T.extract 128 192) (by have:=HC.out; omega) (by omega);have hx:=HX.out 2;have h4:=H4.out 2 EZ.out;rw [show (T.extract 128 192).data.toList=(T.data.toList.drop (64*2)).take 64 from hx,show ((k:Int)+2)=(k:Int)+((2:Nat):Int) from by omega,←h4,show (k:Int)+((2:Nat):Int)=(k:Int)+2 from by omega] at KW;have KW:=xh KW;clear hx h4 bd
   have IX:=xh (show (Instr.index 244 (.agg #[.int .i64 (k:Int),.int .i64 ((k:Int)+1),.int .i64 ((k:Int)+2),.int .i64 ((k:Int)+3)]) (.int .i64 2)).run Tryz.prog wr= .ok (.int .i64 ((k:Int)+2)) wr from x6 (k:Int) ((k:Int)+1) ((k:Int)+2) ((k:Int)+3) wr 2 _ rfl);go_wp2_with fail;rw [IX.out];go_wp2_with fail;refine KW.out.mono ?_;rintro e wz ⟨rfl,dd,oz⟩;have DZ:=xh dd;have OZ:=xh (O.out.trans oz);clear dd oz KW
   by_cases hz:(w4 d n k T.data.toList 3).2=0
   ·have HZ:=xh hz;have hq:((w4 d n k T.data.toList 3).2 != 0)=false:=by rw [hz]; rfl
    clear hz;go_wp2_with fail;go_roundw
    case rel=>exact ⟨3,by omega,by first | rfl | simp,DZ,HZ,OZ⟩
    case measure=>first | decide | simp [intOf]
   ·have hs:=HS.out 3 4 hz (by omega);have Jo:=xh hs;have hq:((w4 d n k T.data.toList 3).2 != 0)=true:=by rw [bne_iff_ne]; exact hz
    clear hz hs;go_wp2_with fail;go_ret;exact ⟨by first | rfl | (rw [Jo.out]; rfl),by first | exact DZ.out | (rw [Jo.out]; exact DZ.out),OZ.out⟩
  ·have bd:=HB.out 3;have KW:=ix DD.out ((k:Int)+3) (T.extract 192 256) (by have:=HC.out; omega) (by omega);have hx:=HX.out 3;have h4:=H4.out 3 EZ.out;rw [show (T.extract 192 256).data.toList=(T.data.toList.drop (64*3)).take 64 from hx,show ((k:Int)+3)=(k:Int)+((3:Nat):Int) from by omega,←h4,show (k:Int)+((3:Nat):Int)=(k:Int)+3 from by omega] at KW;have KW:=xh KW;clear hx h4 bd
   have IX:=xh (show (Instr.index 244 (.agg #[.int .i64 (k:Int),.int .i64 ((k:Int)+1),.int .i64 ((k:Int)+2),.int .i64 ((k:Int)+3)]) (.int .i64 3)).run Tryz.prog wr= .ok (.int .i64 ((k:Int)+3)) wr from x6 (k:Int) ((k:Int)+1) ((k:Int)+2) ((k:Int)+3) wr 3 _ rfl);go_wp2_with fail;rw [IX.out];go_wp2_with fail;refine KW.out.mono ?_;rintro e wz ⟨rfl,dd,oz⟩;have DZ:=xh dd;have OZ:=xh (O.out.trans oz);clear dd oz KW
   by_cases hz:(w4 d n k T.data.toList 4).2=0
   ·have HZ:=xh hz;have hq:((w4 d n k T.data.toList 4).2 != 0)=false:=by rw [hz]; rfl
    clear hz;go_wp2_with fail;go_roundw
    case rel=>exact ⟨4,by omega,by first | rfl | simp,DZ,HZ,OZ⟩
    case measure=>first | decide | simp [intOf]
   ·have hs:=HS.out 4 4 hz (by omega);have Jo:=xh hs;have hq:((w4 d n k T.data.toList 4).2 != 0)=true:=by rw [bne_iff_ne]; exact hz
    clear hz hs;go_wp2_with fail;go_ret;exact ⟨by first | rfl | (rw [Jo.out]; rfl),by first | exact DZ.out | (rw [Jo.out]; exact DZ.out),OZ.out⟩
  ·go_wp2_with fail;go_ret;exact ⟨by rw [EZ.out]; rfl,DD.out,O.out⟩
theorem Cq {w:World} {L:Dk.Loc} {n:Nat} {d:D} (h:aI w L n d) (id ep kd:Int) (s:ByteArray) (hid:id≤9223372036854775807) (hc:d.calls≤3999999999999999990) (hr:d.aP≤9223372036854775807):
  Calls Tryz.prog 225 #[dp L.b,gl id ep kd s] w fun e w'=>e= .returned (.int .i64 (aO d n id ep kd s.data.toList).2)∧aI w' L n (aO d n id ep kd s.data.toList).1∧ag L.fp w w':=by
 by_cases hp:(cL id ep kd s.data.toList).2=0
 ·by_cases hm:(bC n:Int)≤id
  ·exact (wy h id ep kd s hid (.inr hm)).mono fun e w' hx=>⟨hx.1,hx.2.1,.ak hx.2.2⟩
  ·have dS:=(kR id ep kd).1 (sW hp).2;obtain ⟨a,rfl⟩:=Int.eq_ofNat_of_zero_le dS.1;have e1:aO d n a ep kd s.data.toList=w4 d n (2+4*a) (cL a ep kd s.data.toList).1 4:=by
    unfold aO;rw [if_neg (by simpa using hp),if_neg hm]; rfl
   rw [e1];exact Cp h a ep kd s hp (by omega) hc hr
 ·exact (wy h id ep kd s hid (.inl hp)).mono fun e w' hx=>⟨hx.1,hx.2.1,.ak hx.2.2⟩
end Go.Proofs.YtmonobkginiajaaGreat.Pg
namespace Go.Proofs.YtmonobkginiajaaGreat.Pg
open Go.RowKit Pk Dk
attribute [local go_sem ↓] Go.wp_at_zero Go.wp_at_succ p9
def aQ (d:D) (n:Nat) (id:Int):PG×Int:=
 if id<0∨(bC n:Int)≤id then (.zero,3)
 else if d.down=true then (.zero,13)
 else if (gH ((d.now.drop (64*(2+4*id.toNat))).take 256)).2≠0 then (.zero,(gH ((d.now.drop (64*(2+4*id.toNat))).take 256)).2)
 else if (gH ((d.now.drop (64*(2+4*id.toNat))).take 256)).1.id≠id then (.zero,14)
 else ((gH ((d.now.drop (64*(2+4*id.toNat))).take 256)).1,0)
theorem lQ (F:List UInt8) (k i:Nat):(F.drop (64*k)).take (64*(i+1))=(F.drop (64*k)).take (64*i)++sec F (k+i):=by
 unfold sec;rw [show 64*(i+1)=64*i+64 by omega,List.take_add,List.drop_drop,show 64*k+64*i=64*(k+i) by omega]
theorem ya (d:D) (n:Nat) (k:Nat) (h:k<n):d.gI n k=if d.down=true then 13 else 0:=by
 unfold D.gI;rw [if_pos (show 0≤(k:Int)∧(k:Int)<n by omega)]
theorem Cs (d:D) (n:Nat) (k:Nat) (h:k<n) (hd:d.down=true):d.aD n k=([],13):=by
 unfold D.aD;rw [ya d n k h,if_pos hd]; rfl
theorem Jp (d:D) (n:Nat) (k:Nat) (h:k<n) (hd:d.down=false):d.aD n k=(sec d.now k,0):=by
 unfold D.aD;rw [ya d n k h];simp [hd]
theorem Gk {w:World} (b:Nat) (id:Int) (h:id<0):
  Calls Tryz.prog 139 #[dp b,.int .i64 id] w fun e w'=>e= .returned (.tuple #[PG.zero.val,.int .i64 3])∧Below w.heap.size w w':=by
 have B0:=xh (ax.new w 162 fw);have O0:=xh (ae (Below.refl w.heap.size w) (.cells fw 162));unfold dp;go_enter Tryz.func139,Tryz.ntmps139;go_wp2_with fail;exact bodyPost_ret (cU rfl rfl B0.out) rfl ⟨rfl,O0.out⟩
theorem Gl {w:World} {L:Dk.Loc} {n:Nat} {d:D} (hd:aI w L n d) (id:Int) (h0:0≤id) (h:(bC n:Int)≤id):
  Calls Tryz.prog 139 #[dp L.b,.int .i64 id] w fun e w'=>e= .returned (.tuple #[PG.zero.val,.int .i64 3])∧Below w.heap.size w w':=by
 have B0:=xh (ax.new w 162 fw);have O0:=ae (Below.refl w.heap.size w) (.cells fw 162);have K:=xh (kr (hd.below O0));have O0:=xh O0;have h1: ¬id<0:=by omega
 clear hd;have z0:=B0.out.frozen 0 (by simp);have z1:=B0.out.frozen 1 (by simp);have z2:=B0.out.frozen 2 (by simp);have z3:=B0.out.frozen 3 (by simp);have c0:=B0.out.ab (i:=0) rfl;have c1:=B0.out.ab (i:=1) rfl;have c2:=B0.out.ab (i:=2) rfl;have c3:=B0.out.ab (i:=3) rfl;have ZB:=xh (jG B0.out rfl 0 0 0 ⟨#[]⟩);have ZO:=xh (dO O0.out (Nat.le_refl _) 0 0 0 ⟨#[]⟩);unfold dp at *;go_enter Tryz.func139,Tryz.ntmps139;go_wp2_with fail
 refine K.out.mono ?_;rintro e w1 ⟨rfl,rfl⟩;go_wp2_with fail;exact bodyPost_ret (cU rfl rfl B0.out) rfl ⟨rfl,O0.out⟩
theorem Ct {w:World} {L:Dk.Loc} {n:Nat} {d:D} (hd:aI w L n d) (id:Nat) (h:id<bC n) (hdn:d.down=true):
  Calls Tryz.prog 139 #[dp L.b,.int .i64 (id:Nat)] w fun e w'=>e= .returned (.tuple #[PG.zero.val,.int .i64 13])∧Below w.heap.size w w':=by
 have hn:=hd.ok.small;have hmn:bC n≤1023:=by unfold bC; omega
 have vK:2+4*id<n:=by unfold bC at h; omega
 have B0:=xh (ax.new w 162 fw);have O0:=ae (Below.refl w.heap.size w) (.cells fw 162);have K:=xh (kr (hd.below O0));have O0:=xh O0;have KS:=xh (fun w=>kW (w:=w) id (by omega));have KR:=fun w' (hb:Below w.heap.size w w')=>kq (hd.below hb) ((2+4*id:Nat):Int);rw [Cs d n _ vK hdn] at KR;have KR:=xh KR;have h1: ¬((id:Nat):Int)<0:=by omega
 have h2: ¬((bC n:Nat):Int)≤(id:Int):=by omega
 clear hd;generalize bC n=mn at *;generalize 2+4*id=k at *;unfold dp lP at *;go_enter Tryz.func139,Tryz.ntmps139;go_wp2_with fail;refine K.out.mono ?_;rintro e w1 ⟨rfl,rfl⟩;go_wp2_with fail;refine (KS.out _).mono ?_;rintro e w2 ⟨rfl,bT⟩;have O2:=xh (ao O0.out bT);have B2:=xh (B0.out.below bT B0.out.lt);clear bT;have z0:=B2.out.frozen 0 (by simp);have z1:=B2.out.frozen 1 (by simp);have z2:=B2.out.frozen 2 (by simp);have z3:=B2.out.frozen 3 (by simp)
 have c0:=B2.out.ab (i:=0) rfl;have c1:=B2.out.ab (i:=1) rfl;have c2:=B2.out.ab (i:=2) rfl;have c3:=B2.out.ab (i:=3) rfl;have ZB:=xh (jG B2.out rfl 0 0 0 ⟨#[]⟩);have ZO:=xh (dO O2.out (Nat.le_refl _) 0 0 0 ⟨#[]⟩)
 have IX:=xh (show (Instr.index 244 (.agg #[.int .i64 (k:Int),.int .i64 ((k:Int)+1),.int .i64 ((k:Int)+2),.int .i64 ((k:Int)+3)]) (.int .i64 0)).run Tryz.prog w2= .ok (.int .i64 (k:Int)) w2 from x6 (k:Int) ((k:Int)+1) ((k:Int)+2) ((k:Int)+3) w2 0 _ rfl);go_wp2_with fail
 go_loopw [6,29] (fun bv iv wr=>bv= .slice none 0 0∧iv= .int .i64 0∧wr=w2) (fun _ _ _=>0)
 case atStart=>exact ⟨rfl,rfl,rfl⟩
 case round=>
  obtain ⟨rfl,rfl,rfl⟩:=hrel;go_wp2_with fail;rw [IX.out];go_wp2_with fail;refine (KR.out _ O2.out).mono ?_;rintro e w3 ⟨rfl,rfl⟩;go_wp2_with fail;exact bodyPost_ret (cU rfl rfl ZB.out) rfl ⟨rfl,ZO.out⟩
theorem Jq {w:World} {L:Dk.Loc} {n:Nat} {d:D} (hd:aI w L n d) (id:Nat) (h:id<bC n) (hdn:d.down=false):
  Calls Tryz.prog 139 #[dp L.b,.int .i64 (id:Nat)] w fun e w'=>e= .returned (.tuple #[(aQ d n id).1.val,.int .i64 (aQ d n id).2])∧Below w.heap.size w w':=by
 have hn:=hd.ok.small;have hnow:=hd.ok.now;have hmn:bC n≤1023:=by unfold bC; omega
 have vK:2+4*id+3<n:=by unfold bC at h; omega
 have B0:=xh (ax.new w 162 fw);have O0:=ae (Below.refl w.heap.size w) (.cells fw 162);have K:=xh (kr (hd.below O0));have O0:=xh O0;have KS:=xh (fun w=>kW (w:=w) id (by omega));have KR:=fun i (hi:i≤3) w' (hb:Below w.heap.size w w')=>by
  have h:=kq (hd.below hb) ((2+4*id+i:Nat):Int);rw [Jp d n _ (by omega) hdn] at h;exact h
 have KR:=xh KR;obtain ⟨l,hl⟩: ∃l,(d.now.drop (64*(2+4*id))).take 256=l:=⟨_,rfl⟩;have hres:aQ d n id=if (gH l).2≠0 then (.zero,(gH l).2) else if (gH l).1.id≠(id:Int) then (.zero,14) else ((gH l).1,0):=by
  unfold aQ;rw [if_neg (by omega),if_neg (by simp [hdn]),show ((id:Nat):Int).toNat=id from by omega,hl]
 generalize aQ d n id=R at *;have HR:=xh hres;have Gm:=xh (show ((d.now.drop (64*(2+4*id))).take 256).length=256 from by rw [List.length_take,List.length_drop]; omega);have HNX:=xh (lQ d.now (2+4*id));have HL:=xh hl;have KG:=xh (fun w=>Jg (w:=w) ⟨l.toArray⟩);have HLN:=xh (show ∀i,i≤4→((d.now.drop (64*(2+4*id))).take (64*i)).length=64*i from fun i hi=>by rw [List.length_take,List.length_drop]; omega)
 have HSZ:=xh (show ∀i,i≤3→(sec d.now (2+4*id+i)).length=64 from fun i hi=>jH hnow (by omega));have h1: ¬((id:Nat):Int)<0:=by omega
 have h2: ¬((bC n:Nat):Int)≤(id:Int):=by omega
 clear hd hl hres hnow;generalize bC n=mn at *;generalize 2+4*id=k at *;unfold dp lP at *;go_enter Tryz.func139,Tryz.ntmps139;go_wp2_with fail;refine K.out.mono ?_;rintro e w1 ⟨rfl,rfl⟩;go_wp2_with fail;refine (KS.out _).mono ?_;rintro e w2 ⟨rfl,bT⟩;have O2:=xh (ao O0.out bT);have B2:=xh (B0.out.below bT B0.out.lt);have y2:=B2.out.lt;clear bT B0 O0 K KS;go_wp2_with fail
 go_loopw [6,29] (fun bv iv wr=> ∃i:Nat,i≤4∧iv= .int .i64 i∧aG wr 5 1 bv (64*i) (cI ((d.now.drop (64*k)).take (64*i)))∧Hid (Below w.heap.size w wr)∧Hid (Below w2.heap.size w2 wr)∧Hid (∀g∈ah bv,w2.heap.size≤g)) (fun _ iv _=>4-(intOf iv).toNat)
 case atStart=>exact ⟨0,by omega,rfl,by rw [Nat.mul_zero,List.take_zero]; exact aG.nil _ _ _,O2,xh (Below.refl _ _),xh (by simp [ah])⟩
 case round=>
  obtain ⟨i,hi,rfl,S,O,OB,F⟩:=hrel;have ii:i=0∨i=1∨i=2∨i=3∨i=4:=by omega
  rcases ii with rfl | rfl | rfl | rfl | rfl
  ·have hr:=KR.out 0 (by omega) _ O.out;rw [show ((k+0:Nat):Int)=(k:Int) from by omega] at hr;have Jr:=xh hr;have S:aG wr 5 1 _ 0 (cI ((d.now.drop (64*k)).take 0)):=S;obtain ⟨V1,oF,rfl⟩:=aq S;obtain ⟨U,hU⟩: ∃U:ByteArray,(⟨(sec d.now (k+0)).toArray⟩:ByteArray)=U:=⟨_,rfl⟩;rw [hU] at Jr;have zm:U.data.toList=sec d.now (k+0):=by rw [←hU]
   have IB:U.size=64:=by rw [←hU,fL]; exact HSZ.out 0 (by omega)
   obtain ⟨v2,w4,ea,S2,ow,fr⟩:=fK (P:=Tryz.prog) S 150 9 150 Tryz.underlying150 Tryz.underlying9 gx.dg U (by rw [IB]; omega);obtain ⟨V2,fu,rfl⟩:=aq S2;rw [IB] at ea S2 fr;have EA:=xh (show lM Tryz.prog 150 9 150 wr (.slice V1 0 oF) (.string U)= .ok (.slice V2 64 fu) w4 from ea);have SX:=xh (show aG w4 5 1 (.slice V2 64 fu) (64*1) (cI ((d.now.drop (64*k)).take (64*1))) from by
    have hn:=HNX.out 0;rw [show 64*(0+1)=64*1 from rfl,←zm] at hn;rw [hn,bU];exact S2)
   have OX:=xh (O.out.trans (ow.ay O.out.size (fun g hg=>Nat.le_trans O2.out.size (F.out g hg))));have OBX:=xh (OB.out.trans (ow.ay OB.out.size F.out));have FX:=xh (show ∀g∈ah (.slice V2 64 fu),w2.heap.size≤g from fun g hg=>(fr g hg).elim (F.out g) (fun h=>Nat.le_trans OB.out.size h))
   have IX:=xh (show (Instr.index 244 (.agg #[.int .i64 (k:Int),.int .i64 ((k:Int)+1),.int .i64 ((k:Int)+2),.int .i64 ((k:Int)+3)]) (.int .i64 0)).run Tryz.prog wr= .ok (.int .i64 ((k:Int))) wr from x6 (k:Int) ((k:Int)+1) ((k:Int)+2) ((k:Int)+3) wr 0 _ rfl);clear hr ea S2 ow fr S hU zm;go_wp2_with fail;rw [IX.out];go_wp2_with fail;refine Jr.out.mono ?_;rintro e wz ⟨rfl,rfl⟩;go_wp2_with fail;rw [EA.out];go_wp2_with fail;go_roundw
   case rel=>exact ⟨1,by omega,by first | rfl | simp,SX.out,OX,OBX,FX⟩
   case measure=>first | decide | simp [intOf]
  ·have hr:=KR.out 1 (by omega) _ O.out;rw [show ((k+1:Nat):Int)=(k:Int)+1 from by omega] at hr;have Jr:=xh hr;have S:aG wr 5 1 _ 64 (cI ((d.now.drop (64*k)).take 64)):=S;obtain ⟨V1,oF,rfl⟩:=aq S;obtain ⟨U,hU⟩: ∃U:ByteArray,(⟨(sec d.now (k+1)).toArray⟩:ByteArray)=U:=⟨_,rfl⟩;rw [hU] at Jr;have zm:U.data.toList=sec d.now (k+1):=by rw [←hU]
   have IB:U.size=64:=by rw [←hU,fL]; exact HSZ.out 1 (by omega)
   obtain ⟨v2,w4,ea,S2,ow,fr⟩:=fK (P:=Tryz.prog) S 150 9 150 Tryz.underlying150 Tryz.underlying9 gx.dg U (by rw [IB]; omega);obtain ⟨V2,fu,rfl⟩:=aq S2;rw [IB] at ea S2 fr;have EA:=xh (show lM Tryz.prog 150 9 150 wr (.slice V1 64 oF) (.string U)= .ok (.slice V2 128 fu) w4 from ea);have SX:=xh (show aG w4 5 1 (.slice V2 128 fu) (64*2) (cI ((d.now.drop (64*k)).take (64*2))) from by
    have hn:=HNX.out 1;rw [show 64*(1+1)=64*2 from rfl,←zm] at hn;rw [hn,bU];exact S2)
   have OX:=xh (O.out.trans (ow.ay O.out.size (fun g hg=>Nat.le_trans O2.out.size (F.out g hg))));have OBX:=xh (OB.out.trans (ow.ay OB.out.size F.out));have FX:=xh (show ∀g∈ah (.slice V2 128 fu),w2.heap.size≤g from fun g hg=>(fr g hg).elim (F.out g) (fun h=>Nat.le_trans OB.out.size h))
   have IX:=xh (show (Instr.index 244 (.agg #[.int .i64 (k:Int),.int .i64 ((k:Int)+1),.int .i64 ((k:Int)+2),.int .i64 ((k:Int)+3)]) (.int .i64 1)).run Tryz.prog wr= .ok (.int .i64 ((k:Int)+1)) wr from x6 (k:Int) ((k:Int)+1) ((k:Int)+2) ((k:Int)+3) wr 1 _ rfl);clear hr ea S2 ow fr S hU zm;go_wp2_with fail;rw [IX.out];go_wp2_with fail;refine Jr.out.mono ?_;rintro e wz ⟨rfl,rfl⟩;go_wp2_with fail;rw [EA.out];go_wp2_with fail;go_roundw
   case rel=>exact ⟨2,by omega,by first | rfl | simp,SX.out,OX,OBX,FX⟩
   case measure=>first | decide | simp [intOf]
  ·have hr:=KR.out 2 (by omega) _ O.out;rw [show ((k+2:Nat):Int)=(k:Int)+2 from by omega] at hr;have Jr:=xh hr;have S:aG wr 5 1 _ 128 (cI ((d.now.drop (64*k)).take 128)):=S;obtain ⟨V1,oF,rfl⟩:=aq S;obtain ⟨U,hU⟩: ∃U:ByteArray,(⟨(sec d.now (k+2)).toArray⟩:ByteArray)=U:=⟨_,rfl⟩;rw [hU] at Jr;have zm:U.data.toList=sec d.now (k+2):=by rw [←hU]
   have IB:U.size=64:=by rw [←hU,fL]; exact HSZ.out 2 (by omega)
   obtain ⟨v2,w4,ea,S2,ow,fr⟩:=fK (P:=Tryz.prog) S 150 9 150 Tryz.underlying150 Tryz.underlying9 gx.dg U (by rw [IB]; omega);obtain ⟨V2,fu,rfl⟩:=aq S2;rw [IB] at ea S2 fr;have EA:=xh (show lM Tryz.prog 150 9 150 wr (.slice V1 128 oF) (.string U)= .ok (.slice V2 192 fu) w4 from ea);have SX:=xh (show aG w4 5 1 (.slice V2 192 fu) (64*3) (cI ((d.now.drop (64*k)).take (64*3))) from by
    have hn:=HNX.out 2;rw [show 64*(2+1)=64*3 from rfl,←zm] at hn;rw [hn,bU];exact S2)
   have OX:=xh (O.out.trans (ow.ay O.out.size (fun g hg=>Nat.le_trans O2.out.size (F.out g hg))));have OBX:=xh (OB.out.trans (ow.ay OB.out.size F.out));have FX:=xh (show ∀g∈ah (.slice V2 192 fu),w2.heap.size≤g from fun g hg=>(fr g hg).elim (F.out g) (fun h=>Nat.le_trans OB.out.size h))
   have IX:=xh (show (Instr.index 244 (.agg #[.int .i64 (k:Int),.int .i64 ((k:Int)+1),.int .i64 ((k:Int)+2),.int .i64 ((k:Int)+3)]) (.int .i64 2)).run Tryz.prog wr= .ok (.int .i64 ((k:Int)+2)) wr from x6 (k:Int) ((k:Int)+1) ((k:Int)+2) ((k:Int)+3) wr 2 _ rfl);clear hr ea S2 ow fr S hU zm;go_wp2_with fail;rw [IX.out];go_wp2_with fail;refine Jr.out.mono ?_;rintro e wz ⟨rfl,rfl⟩;go_wp2_with fail;rw [EA.out];go_wp2_with fail;go_roundw
   case rel=>exact ⟨3,by omega,by first | rfl | simp,SX.out,OX,OBX,FX⟩
   case measure=>first | decide | simp [intOf]
  ·have hr:=KR.out 3 (by omega) _ O.out;rw [show ((k+3:Nat):Int)=(k:Int)+3 from by omega] at hr;have Jr:=xh hr;have S:aG wr 5 1 _ 192 (cI ((d.now.drop (64*k)).take 192)):=S;obtain ⟨V1,oF,rfl⟩:=aq S;obtain ⟨U,hU⟩: ∃U:ByteArray,(⟨(sec d.now (k+3)).toArray⟩:ByteArray)=U:=⟨_,rfl⟩;rw [hU] at Jr;have zm:U.data.toList=sec d.now (k+3):=by rw [←hU]
   have IB:U.size=64:=by rw [←hU,fL]; exact HSZ.out 3 (by omega)
   obtain ⟨v2,w4,ea,S2,ow,fr⟩:=fK (P:=Tryz.prog) S 150 9 150 Tryz.underlying150 Tryz.underlying9 gx.dg U (by rw [IB]; omega);obtain ⟨V2,fu,rfl⟩:=aq S2;rw [IB] at ea S2 fr;have EA:=xh (show lM Tryz.prog 150 9 150 wr (.slice V1 192 oF) (.string U)= .ok (.slice V2 256 fu) w4 from ea);have SX:=xh (show aG w4 5 1 (.slice V2 256 fu) (64*4) (cI ((d.now.drop (64*k)).take (64*4))) from by
    have hn:=HNX.out 3;rw [show 64*(3+1)=64*4 from rfl,←zm] at hn;rw [hn,bU];exact S2)
   have OX:=xh (O.out.trans (ow.ay O.out.size (fun g hg=>Nat.le_trans O2.out.size (F.out g hg))));have OBX:=xh (OB.out.trans (ow.ay OB.out.size F.out));have FX:=xh (show ∀g∈ah (.slice V2 256 fu),w2.heap.size≤g from fun g hg=>(fr g hg).elim (F.out g) (fun h=>Nat.le_trans OB.out.size h))
   have IX:=xh (show (Instr.index 244 (.agg #[.int .i64 (k:Int),.int .i64 ((k:Int)+1),.int .i64 ((k:Int)+2),.int .i64 ((k:Int)+3)]) (.int .i64 3)).run Tryz.prog wr= .ok (.int .i64 ((k:Int)+3)) wr from x6 (k:Int) ((k:Int)+1) ((k:Int)+2) ((k:Int)+3) wr 3 _ rfl);clear hr ea S2 ow fr S hU zm;go_wp2_with fail;rw [IX.out];go_wp2_with fail;refine Jr.out.mono ?_;rintro e wz ⟨rfl,rfl⟩;go_wp2_with fail;rw [EA.out];go_wp2_with fail;go_roundw
   case rel=>exact ⟨4,by omega,by first | rfl | simp,SX.out,OX,OBX,FX⟩
   case measure=>first | decide | simp [intOf]
  ·have ST:=xh (r9 (P:=Tryz.prog) S 150 9 Tryz.underlying150 Tryz.underlying5 Tryz.underlying9);rw [show 64*4=256 from rfl,HL.out] at ST;obtain ⟨VA,vc,rfl⟩:=aq S;have B3:=xh (B2.out.below OB.out y2);clear S;go_wp2_with fail;rw [ST.out];go_wp2_with fail;refine (KG.out _).mono ?_;rintro e w5 ⟨rfl,ko⟩;obtain ⟨P,hP⟩: ∃P,(gH l).1=P:=⟨_,rfl⟩;obtain ⟨er,Cb⟩: ∃er,(gH l).2=er:=⟨_,rfl⟩;have GP:=xh (And.intro hP Cb);rw [hP,Cb];clear hP Cb;obtain ⟨pid,pep,pkd,ps⟩:=P
   have O6:=xh (ae (ao O.out ko) (.cells #[.int .i64 pid,.int .i64 pep,.int .i64 pkd,.string ⟨ps.toArray⟩] 162));have B6:=xh ((B3.out.below ko B3.out.lt).alloc (.cells #[.int .i64 pid,.int .i64 pep,.int .i64 pkd,.string ⟨ps.toArray⟩] 162));have P6:=xh (ax.new w5 162 #[.int .i64 pid,.int .i64 pep,.int .i64 pkd,.string ⟨ps.toArray⟩]);clear ko B3;unfold PG.val gl;dsimp only;have z0:=B6.out.frozen 0 (by simp);have z1:=B6.out.frozen 1 (by simp)
   have z2:=B6.out.frozen 2 (by simp);have z3:=B6.out.frozen 3 (by simp);have c0:=B6.out.ab (i:=0) rfl;have c1:=B6.out.ab (i:=1) rfl;have c2:=B6.out.ab (i:=2) rfl;have c3:=B6.out.ab (i:=3) rfl;have p0:=P6.out.ab (i:=0) rfl;have p1:=P6.out.ab (i:=1) rfl;have p2:=P6.out.ab (i:=2) rfl;have p3:=P6.out.ab (i:=3) rfl;have ZB:=xh (jG B6.out rfl 0 0 0 ⟨#[]⟩);have ZO:=xh (dO O6.out (Nat.le_refl _) 0 0 0 ⟨#[]⟩)
   have YB:=xh (jG B6.out rfl pid pep pkd ⟨ps.toArray⟩);have YO:=xh (dO O6.out (Nat.le_refl _) pid pep pkd ⟨ps.toArray⟩)
   by_cases Cb:er=0
   ·subst Cb
    by_cases hpi:pid=id
    ·have hq:(pid != (id:Int))=false:=by rw [bne_eq_false_iff_eq]; exact hpi
     have RES:=xh (show (if (gH l).2≠0 then (PG.zero,(gH l).2) else if (gH l).1.id≠(id:Int) then (PG.zero,14) else ((gH l).1,0))=(⟨pid,pep,pkd,ps⟩,0) from by
      rw [GP.out.1,GP.out.2]; simp [hpi])
     clear hpi;go_wp2_with fail;exact bodyPost_ret (cU rfl rfl YB.out) rfl ⟨by rw [HR.out.trans RES.out]; rfl,YO.out⟩
    ·have hq:(pid != (id:Int))=true:=by rw [bne_iff_ne]; exact hpi
     have RES:=xh (show (if (gH l).2≠0 then (PG.zero,(gH l).2) else if (gH l).1.id≠(id:Int) then (PG.zero,14) else ((gH l).1,0))=(PG.zero,14) from by
      rw [GP.out.1,GP.out.2]; simp [hpi])
     clear hpi;go_wp2_with fail;exact bodyPost_ret (cU rfl rfl ZB.out) rfl ⟨by rw [HR.out.trans RES.out]; rfl,ZO.out⟩
   ·have hq:(er != 0)=true:=by rw [bne_iff_ne]; exact Cb
    have RES:=xh (show (if (gH l).2≠0 then (PG.zero,(gH l).2) else if (gH l).1.id≠(id:Int) then (PG.zero,14) else ((gH l).1,0))=(PG.zero,er) from by
     rw [GP.out.1,GP.out.2,if_pos Cb])
    clear Cb;go_wp2_with fail;exact bodyPost_ret (cU rfl rfl ZB.out) rfl ⟨by rw [HR.out.trans RES.out]; rfl,ZO.out⟩
theorem Gn {w:World} {L:Dk.Loc} {n:Nat} {d:D} (hd:aI w L n d) (id:Int):
  Calls Tryz.prog 139 #[dp L.b,.int .i64 id] w fun e w'=>e= .returned (.tuple #[(aQ d n id).1.val,.int .i64 (aQ d n id).2])∧Below w.heap.size w w':=by
 by_cases h0:id<0
 ·have:aQ d n id=(.zero,3):=by unfold aQ; rw [if_pos (.inl h0)]
  rw [this];exact Gk L.b id h0
 ·by_cases h1:(bC n:Int)≤id
  ·have:aQ d n id=(.zero,3):=by unfold aQ; rw [if_pos (.inr h1)]
   rw [this];exact Gl hd id (by omega) h1
  ·obtain ⟨a,rfl⟩:=Int.eq_ofNat_of_zero_le (show 0≤id by omega)
   cases hdn:d.down
   ·exact Jq hd a (by omega) hdn
   ·have:aQ d n a=(.zero,13):=by unfold aQ; rw [if_neg (by omega),if_pos hdn]
    rw [this];exact Ct hd a (by omega) hdn
end Go.Proofs.YtmonobkginiajaaGreat.Pg
namespace Go.Proofs.YtmonobkginiajaaGreat.Pg
open Go.RowKit Pk Dk
theorem yb (N:Nat) (h:N<18446744073709551616):lH (p7 N)=N:=by
 have e:p7 N=[UInt8.ofNat (N / 72057594037927936),UInt8.ofNat (N / 281474976710656),UInt8.ofNat (N / 1099511627776),UInt8.ofNat (N / 4294967296),UInt8.ofNat (N / 16777216),UInt8.ofNat (N / 65536),UInt8.ofNat (N / 256),UInt8.ofNat (N / 1)]:=rfl;rw [e];simp only [lH,List.foldl_cons,List.foldl_nil,UInt8.toNat_ofNat'];omega
theorem wC (n:Int) (h0:0≤n) (h1:n≤9223372036854775807):(lH (dR n):Int)-9223372036854775808=n:=by
 unfold dR;rw [yb _ (by omega)];omega
theorem beN_kd (N:Nat) (h:N≤2147483647):lH ((p7 N).drop 4)=N:=by
 rw [Je];simp only [lH,List.foldl_cons,List.foldl_nil,UInt8.toNat_ofNat'];omega
theorem oS {α} (a b:List α) (n:Nat) (h:a.length=n):(a++b).take n=a:=by rw [List.take_append_of_le_length (by omega),List.take_of_length_le (by omega)]
theorem oT {α} (a b:List α) (n:Nat) (h:a.length=n):(a++b).drop n=b:=by rw [←h]; exact List.drop_left
theorem wD (id ep kd:Int) (s:List UInt8) (h:s.length≤232):dA (iO id ep kd s) 252=dR id++(dR ep++((p7 kd.toNat).drop 4++dA s 232)):=by
 rw [←Jf id ep kd s h];simp only [List.append_assoc]
theorem Gp {id ep kd:Int} {s:List UInt8} (dS:Cm id ep kd=true) (hid:id≤9223372036854775807) (hs:s.length≤232):
  gH (iq id ep kd s)=(⟨id,ep,kd,dA s 232⟩,0):=by
 have hb:=(kR id ep kd).1 dS;have rW:(dA (iO id ep kd s) 252).length=252:=by
  have:(iO id ep kd s).length=20+s.length:=by unfold iO; simp [ev,kT]; omega
  unfold dA; rw [List.length_append,List.length_replicate]; omega
 have hd4:(iq id ep kd s).drop 4=dA (iO id ep kd s) 252:=oT _ _ 4 rfl;have ht4:(iq id ep kd s).take 4=gx.gi (gx.iM (dA (iO id ep kd s) 252)):=oS _ _ 4 rfl;have hlen:(iq id ep kd s).length=256:=by
  unfold iq gx.aY;rw [List.length_append,rW]; rfl
 have f4:((p7 kd.toNat).drop 4).length=4:=by rw [List.length_drop,kT]
 have e1:(iq id ep kd s).drop 12=dR ep++((p7 kd.toNat).drop 4++dA s 232):=by
  rw [show 12=4+8 from rfl,←List.drop_drop,hd4,wD _ _ _ _ hs];exact oT _ _ 8 (ev _)
 have e2:(iq id ep kd s).drop 20=(p7 kd.toNat).drop 4++dA s 232:=by
  rw [show 20=12+8 from rfl,←List.drop_drop,e1];exact oT _ _ 8 (ev _)
 have e3:(iq id ep kd s).drop 24=dA s 232:=by
  rw [show 24=20+4 from rfl,←List.drop_drop,e2];exact oT _ _ 4 f4
 have hdec:jb (iq id ep kd s)=⟨id,ep,kd,dA s 232⟩:=by
  unfold jb;rw [e1,e2,e3,hd4,wD _ _ _ _ hs,oS _ _ 8 (ev _),oS _ _ 8 (ev _),oS _ _ 4 f4,wC id hb.1 hid,wC ep hb.2.1 (by omega),beN_kd _ (by omega)]
  congr 1
  omega
 unfold gH;rw [if_neg (by rw [hlen]; simp),hd4,ht4,if_neg (by simp),hdec];simp only [dS,if_true]
theorem wE (d:D):d.bQ.1.now=d.now:=by
 unfold D.bQ
 split
 ·rfl
 ·split<;>rfl
theorem rm (d:D) (h:d.aP=0):d.bQ.2=0∧d.bQ.1.aP=0∧d.bQ.1.down=d.down:=by
 unfold D.bQ;rw [if_pos h];exact ⟨rfl,h,rfl⟩
theorem sY (d:D) (i:Nat):(d.fy i).aP=d.aP∧(d.fy i).down=d.down:=by unfold D.fy; split<;>exact ⟨rfl,rfl⟩
theorem fO {d:D} {n k:Nat} (hd:d.down=false) (ha:d.aP=0) (hk:k<n) (s:List UInt8):(d.ar n k s).2=0∧(d.ar n k s).1.down=false∧(d.ar n k s).1.aP=0:=by
 have h0:d.gI n k=0:=by rw [ya d n k hk]; simp [hd]
 unfold D.ar;rw [if_pos h0];have h1:(d.cL (k:Int).toNat s).aP=0:=((sY d _).1).trans ha;have h2:(d.cL (k:Int).toNat s).down=false:=((sY d _).2).trans hd;obtain ⟨c1,c2,c3⟩:=rm _ h1;exact ⟨c1,c3.trans h2,c2⟩
theorem EH {d:D} {n k:Nat} (b:List UInt8) (hd:d.down=false) (ha:d.aP=0): ∀i,k+i≤n→(w4 d n k b i).2=0∧(w4 d n k b i).1.down=false∧(w4 d n k b i).1.aP=0
 | 0,_=>⟨rfl,hd,ha⟩
 | i+1,hi=>by
  obtain ⟨h1,h2,h3⟩:=EH (n:=n) (k:=k) b hd ha i (by omega);rw [Jm d n k b i h1];rw [show (k:Int)+(i:Int)=((k+i:Nat):Int) by omega];exact fO h2 h3 (by omega) _
theorem qe (c:List UInt8) (h:c.length=64):ia c=c:=by
 unfold ia;rw [h,Nat.sub_self,List.replicate_zero,List.append_nil,List.take_of_length_le (by omega)]
theorem mE {d:D} {n:Nat} (dS:d.Ok n) (k:Nat) (hk:k<n) (s:List UInt8) (he:(d.ar n k s).2=0) (j:Nat) (hj:j<n):sec (d.ar n k s).1.now j=if k=j then ia s else sec d.now j:=by
 unfold D.ar at he ⊢
 by_cases h0:d.gI n k=0
 ·rw [if_pos h0,wE];show sec (eH d.now (k:Int).toNat (ia s)) j=_;rw [show ((k:Nat):Int).toNat=k from by omega];exact Ez dS.now hk (ib s) hj
 ·rw [if_neg h0] at he;exact absurd he h0
theorem Cu {d:D} {n k:Nat} (dS:d.Ok n) (b:List UInt8) (hb:b.length=256): ∀i,i≤4→k+i≤n→(w4 d n k b i).2=0→ ∀j,j<n→sec (w4 d n k b i).1.now j=if k≤j∧j<k+i then (b.drop (64*(j-k))).take 64 else sec d.now j
 | 0,_,_,_,j,_=>by rw [if_neg (by omega)]; rfl
 | i+1,hi,vK,he,j,hj=>by
  have h1:(w4 d n k b i).2=0:=by
   by_cases h:(w4 d n k b i).2=0
   ·exact h
   ·rw [EG d n k b i (i+1) h (by omega)] at he;exact absurd he h
  have ih:=Cu dS b hb i (by omega) (by omega) h1 j hj;rw [Jm d n k b i h1] at he ⊢;rw [show (k:Int)+(i:Int)=((k+i:Nat):Int) by omega] at he ⊢;rw [mE (sV dS k b i) (k+i) (by omega) _ he j hj]
  by_cases hji:k+i=j
  ·rw [if_pos hji,if_pos (by omega),qe _ (by rw [List.length_take,List.length_drop]; omega)]
   congr 3; omega
  ·rw [if_neg hji,ih]
   by_cases hr:k≤j∧j<k+i
   ·rw [if_pos hr,if_pos (by omega)]
   ·rw [if_neg hr,if_neg (by omega)]
theorem js (F:List UInt8) (k:Nat):(F.drop (64*k)).take 256=sec F k++sec F (k+1)++sec F (k+2)++sec F (k+3):=by
 have h0:=lQ F k 0;have h1:=lQ F k 1;have h2:=lQ F k 2;have h3:=lQ F k 3;simp only [Nat.mul_zero,List.take_zero,List.nil_append,Nat.add_zero] at h0;rw [show (256:Nat)=64*(3+1) from rfl,h3,h2,h1,h0]
theorem chunks (b:List UInt8) (hb:b.length=256):(b.drop (64*0)).take 64++(b.drop (64*1)).take 64++(b.drop (64*2)).take 64++(b.drop (64*3)).take 64=b:=by
 have:=js b 0;rw [Nat.mul_zero,List.drop_zero,List.take_of_length_le (by omega)] at this;exact this.symm
theorem yc {d:D} {n:Nat} (dS:d.Ok n) (id:Nat) (b:List UInt8) (hb:b.length=256) (hid:id<bC n) (he:(w4 d n (2+4*id) b 4).2=0):
  ((w4 d n (2+4*id) b 4).1.now.drop (64*(2+4*id))).take 256=b:=by
 have hk:2+4*id+3<n:=by unfold bC at hid; omega
 have hw:=Cu dS b hb 4 (by omega) (by omega) he;rw [js,hw _ (by omega),hw _ (by omega),hw _ (by omega),hw _ (by omega)];rw [if_pos (by omega),if_pos (by omega),if_pos (by omega),if_pos (by omega)];have:=chunks b hb;rw [show 2+4*id-(2+4*id)=0 by omega,show 2+4*id+1-(2+4*id)=1 by omega,show 2+4*id+2-(2+4*id)=2 by omega,show 2+4*id+3-(2+4*id)=3 by omega];exact this
theorem yd {d:D} {n:Nat} (dS:d.Ok n) (id jd:Nat) (b:List UInt8) (hb:b.length=256) (hid:id<bC n) (hjd:jd<bC n) (eg:id≠jd) (he:(w4 d n (2+4*id) b 4).2=0):
  ((w4 d n (2+4*id) b 4).1.now.drop (64*(2+4*jd))).take 256=(d.now.drop (64*(2+4*jd))).take 256:=by
 have hk:2+4*id+3<n:=by unfold bC at hid; omega
 have hk2:2+4*jd+3<n:=by unfold bC at hjd; omega
 have hw:=Cu dS b hb 4 (by omega) (by omega) he;rw [js,hw _ (by omega),hw _ (by omega),hw _ (by omega),hw _ (by omega),js];rw [if_neg (by omega),if_neg (by omega),if_neg (by omega),if_neg (by omega)]
theorem sZ {d:D} {n:Nat} {id:Nat} {b:List UInt8} (hid:id<bC n) (hd:d.down=false) (hb:(d.now.drop (64*(2+4*id))).take 256=b):
  aQ d n id=if (gH b).2≠0 then (.zero,(gH b).2) else if (gH b).1.id≠(id:Int) then (.zero,14) else ((gH b).1,0):=by
 unfold aQ;rw [if_neg (by omega),if_neg (by simp [hd]),show ((id:Nat):Int).toNat=id from by omega,hb]
theorem jI {d:D} {n:Nat} (dS:d.Ok n) (hd:d.down=false) (ha:d.aP=0) (id:Nat) (ep kd:Int) (s:List UInt8) (hid:id<bC n) (hp:Cm id ep kd=true) (hs:s.length≤232):
  (aO d n id ep kd s).2=0∧(aO d n id ep kd s).1.down=false∧(aO d n id ep kd s).1.aP=0∧aQ (aO d n id ep kd s).1 n id=(⟨id,ep,kd,dA s 232⟩,0)∧
   ∀jd,jd<bC n→jd≠id→aQ (aO d n id ep kd s).1 n jd=aQ d n jd:=by
 have nN:cL id ep kd s=(iq id ep kd s,0):=by unfold cL; rw [if_pos hp,if_neg (by omega)]
 have hlen:=(sW (by rw [nN])).1;rw [nN] at hlen;have hw:aO d n id ep kd s=w4 d n (2+4*id) (iq id ep kd s) 4:=by
  unfold aO;rw [nN];rw [if_neg (by simp),if_neg (by omega)]; rfl
 have hk:2+4*id+4≤n:=by unfold bC at hid; omega
 have hid2:((id:Nat):Int)≤9223372036854775807:=by have:=dS.small; unfold bC at hid; omega
 obtain ⟨f1,f2,f3⟩:=EH (k:=2+4*id) (iq id ep kd s) hd ha 4 hk;rw [hw];refine ⟨f1,f2,f3,?_,fun jd hjd eg=>?_⟩
 ·rw [sZ hid f2 (yc dS id _ hlen hid f1),Gp hp hid2 hs];simp
 ·rw [sZ hjd f2 rfl,sZ hjd hd rfl,yd dS id jd _ hlen hid hjd (Ne.symm eg) f1]
end Go.Proofs.YtmonobkginiajaaGreat.Pg
