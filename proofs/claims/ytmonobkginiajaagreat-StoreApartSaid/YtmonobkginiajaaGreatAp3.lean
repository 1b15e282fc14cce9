/- packed. -/
import Derived.ChangeKeysEq
import Derived.Test.YtmonobkginiajaaGreatAp2
set_option linter.all false
set_option maxRecDepth 100000
set_option maxHeartbeats 8000000
namespace Go.Proofs.YtmonobkginiajaaGreat
open Go.Proofs.Tryz
namespace Pg
open Go.RowKit Pk Dk
attribute [local go_sem ↓] Go.wp_at_zero Go.wp_at_succ
variable{w:World}
def cq(n:Nat):Nat:=(n-2) / 4
theorem nj{L:Dk.Loc}{n:Nat}{d:D}(h:aY w L n d):
  Calls prog 136 #[dp L.b] w λe w'=>e=.returned (.int .i64 (cq n:Nat))/\w=w':=by
 have K:=xh (Fw h);have hn:=h.ok.small;clear h;unfold dp at *;have e1:IntKind.i64.wrap ((n:Int)-2)=(n:Int)-2:=IntWalk.i64_in _ (by omega)
 by_cases h2:2<=n
 .obtain⟨m,rfl⟩:∃m,n=m+2:=⟨n-2,by omega⟩;have e2:IntKind.i64.wrap ((((m+2:Nat):Int)-2).tdiv 4)=((cq (m+2):Nat):Int):=by
   have:(((m+2:Nat):Int)-2)=(m:Int):=by omega
   rw[this,Im (by omega),IntWalk.i64_in _ (by omega)];unfold cq;omega
  have h3:¬((m+2:Nat):Int)-2<0:=by omega
  have HM:=xh (show((cq (m+2):Nat):Int)=(m:Int) / 4 from by unfold cq;omega);go_enter func136,ntmps136;go_wp2_with fail;refine K.o.mono ?_;rintro e w1 ⟨rfl,rfl⟩;go_wp2_with fail
  all_goals
   go_ret;refine⟨?_,rfl⟩;rw[HM.o]
   first|(simp;done)|(simp;omega)
 .have h3:(n:Int)-2<0:=by omega
  have HM:=xh (show((cq n:Nat):Int)=0 from by unfold cq;omega);go_enter func136,ntmps136;go_wp2_with fail;refine K.o.mono ?_;rintro e w1 ⟨rfl,rfl⟩;go_wp2_with fail;go_ret;refine⟨?_,rfl⟩;rw[HM.o]
  first|(simp;done)|(simp;omega)
def pH(k:Nat):List Value:=[.int .i64 (k:Nat),.int .i64 ((k:Int)+1),.int .i64 ((k:Int)+2),.int .i64 ((k:Int)+3)]
def mY(k i:Nat):List Value:=(pH k).take i++List.replicate (4-i) (.int .i64 0)
theorem nm{fn:Func}{p:Tmp}{ty:TypeId}(h:fn.results= #[.cell p ty])(tmps:Array Value)(P:Program)(w:World):
  (results fn tmps).run P w=((asAddr (tmps.getD p undef)).run P w).andThen λa w₁=>(loadVar ty a).run P w₁:=by
 simp only[results,h];simp[Sem.run_bind,Result.andThen]
theorem QN{fn:Func}{p:Tmp}{g:Nat}{a b c d:Int}{tmps:Array Value}(h:fn.results= #[.cell p 244])(hp:tmps.getD p undef=.pointer (some ⟨g,0,none⟩))(B:aE w g 244 #[.int .i64 a,.int .i64 b,.int .i64 c,.int .i64 d]):
  (results fn tmps).run prog w=.ok (.agg #[.int .i64 a,.int .i64 b,.int .i64 c,.int .i64 d]) w:=by
 have c0:=B.ab (i:=0) rfl;have c1:=B.ab (i:=1) rfl;have c2:=B.ab (i:=2) rfl;have c3:=B.ab (i:=3) rfl;rw[nm h,hp];clear h hp B;go_simp
theorem oy(id:Nat)(h:id<=1023):
  Calls prog 184 #[.int .i64 (id:Nat)] w λe w'=>e=.returned (.agg (pH (2+4*id)).toArray)/\Below w.heap.size w w':=by
 have e1:IntKind.i64.wrap ((id:Int)*4)=(id:Int)*4:=IntWalk.i64_in _ (by omega);have e2:IntKind.i64.wrap (2+(id:Int)*4)=2+(id:Int)*4:=IntWalk.i64_in _ (by omega);have Z:∀i:Nat,i<=3->IntKind.i64.wrap (2+(id:Int)*4+(i:Int))=2+(id:Int)*4+(i:Int):=λi hi=>IntWalk.i64_in _ (by omega);have y0:=Z 0 (by omega);have y1:=Z 1 (by omega);have y2:=Z 2 (by omega);have y3:=Z 3 (by omega);clear Z;have q0:Value.int .i64 (2+(id:Int)*4)= .int .i64 ((2+4*id:Nat):Int):=by congr 1;omega
 have q1:Value.int .i64 (2+(id:Int)*4+1)= .int .i64 (((2+4*id:Nat):Int)+1):=by congr 1;omega
 have q2:Value.int .i64 (2+(id:Int)*4+2)= .int .i64 (((2+4*id:Nat):Int)+2):=by congr 1;omega
 have q3:Value.int .i64 (2+(id:Int)*4+3)= .int .i64 (((2+4*id:Nat):Int)+3):=by congr 1;omega
 have Q:=xh (And.intro q0 (And.intro q1 (And.intro q2 q3)));clear q0 q1 q2 q3;have B0:=xh ((aE.new w 244 #[.int .i64 0,.int .i64 0,.int .i64 0,.int .i64 0]).alloc (.cells #[.int .i64 0,.int .i64 0,.int .i64 0,.int .i64 0] 244));have C0:=aE.new (w.alloc (.cells #[.int .i64 0,.int .i64 0,.int .i64 0,.int .i64 0] 244)) 244 #[.int .i64 0,.int .i64 0,.int .i64 0,.int .i64 0]
 rw[show(w.alloc (.cells #[.int .i64 0,.int .i64 0,.int .i64 0,.int .i64 0] 244)).heap.size=w.heap.size+1 from by simp]at C0;have C0:=xh C0;have O0:=xh (ae (ae (Below.refl w.heap.size w) (.cells #[.int .i64 0,.int .i64 0,.int .i64 0,.int .i64 0] 244)) (.cells #[.int .i64 0,.int .i64 0,.int .i64 0,.int .i64 0] 244));go_enter func184,ntmps184;go_wp2_with fail
 go_loopw [5] (λiv wr=> ∃i:Nat,i<=4/\iv=.int .i64 i/\Hid (aE wr (w.heap.size+1) 244 (mY (2+4*id) i).toArray)/\Hid (aE wr w.heap.size 244 #[.int .i64 0,.int .i64 0,.int .i64 0,.int .i64 0])/\Hid (Below w.heap.size w wr)) (λiv _=>4-(intOf iv).toNat)
 case atStart=>exact⟨0,by omega,rfl,C0,B0,O0⟩
 case round=>
  obtain⟨i,hi,rfl,C,B,O⟩:=hrel;have ii:i=0\/i=1\/i=2\/i=3\/i=4:=by omega
  have z0:=C.o.frozen 0 (by rcases ii with rfl|rfl|rfl|rfl|rfl<;>simp[mY,pH]);have z1:=C.o.frozen 1 (by rcases ii with rfl|rfl|rfl|rfl|rfl<;>simp[mY,pH]);have z2:=C.o.frozen 2 (by rcases ii with rfl|rfl|rfl|rfl|rfl<;>simp[mY,pH]);have z3:=C.o.frozen 3 (by rcases ii with rfl|rfl|rfl|rfl|rfl<;>simp[mY,pH])
  rcases ii with rfl|rfl|rfl|rfl|rfl
  .have c0:=C.o.ab (i:=0) (v:= .int .i64 0) rfl;have C2:=xh (show aE (wr.setCell ⟨w.heap.size+1,0,none⟩ (.int .i64 (2+(id:Int)*4))) (w.heap.size+1) 244 (mY (2+4*id) 1).toArray from by
    have h:=C.o.bG 0 (.int .i64 (2+(id:Int)*4));rw[Q.o.1]at h ⊢;exact h)
   have B2:=xh (B.o.aU (p:=⟨w.heap.size+1,0,none⟩) (by simp) (.int .i64 (2+(id:Int)*4)));have O2:=xh (O.o.setCell (p:=⟨w.heap.size+1,0,none⟩) (by simp) (.int .i64 (2+(id:Int)*4)));go_wp2_with fail;go_roundw
   case rel=>exact⟨1,by omega,by first|rfl|simp,C2,B2,O2⟩
   case measure=>first|decide|simp[intOf]
  .have c0:=C.o.ab (i:=1) (v:= .int .i64 0) rfl;have C2:=xh (show aE (wr.setCell ⟨w.heap.size+1,1,none⟩ (.int .i64 (2+(id:Int)*4+1))) (w.heap.size+1) 244 (mY (2+4*id) 2).toArray from by
    have h:=C.o.bG 1 (.int .i64 (2+(id:Int)*4+1));rw[Q.o.2.1]at h ⊢;exact h)
   have B2:=xh (B.o.aU (p:=⟨w.heap.size+1,1,none⟩) (by simp) (.int .i64 (2+(id:Int)*4+1)));have O2:=xh (O.o.setCell (p:=⟨w.heap.size+1,1,none⟩) (by simp) (.int .i64 (2+(id:Int)*4+1)));go_wp2_with fail;go_roundw
   case rel=>exact⟨2,by omega,by first|rfl|simp,C2,B2,O2⟩
   case measure=>first|decide|simp[intOf]
  .have c0:=C.o.ab (i:=2) (v:= .int .i64 0) rfl;have C2:=xh (show aE (wr.setCell ⟨w.heap.size+1,2,none⟩ (.int .i64 (2+(id:Int)*4+2))) (w.heap.size+1) 244 (mY (2+4*id) 3).toArray from by
    have h:=C.o.bG 2 (.int .i64 (2+(id:Int)*4+2));rw[Q.o.2.2.1]at h ⊢;exact h)
   have B2:=xh (B.o.aU (p:=⟨w.heap.size+1,2,none⟩) (by simp) (.int .i64 (2+(id:Int)*4+2)));have O2:=xh (O.o.setCell (p:=⟨w.heap.size+1,2,none⟩) (by simp) (.int .i64 (2+(id:Int)*4+2)));go_wp2_with fail;go_roundw
   case rel=>exact⟨3,by omega,by first|rfl|simp,C2,B2,O2⟩
   case measure=>first|decide|simp[intOf]
  .have c0:=C.o.ab (i:=3) (v:= .int .i64 0) rfl;have C2:=xh (show aE (wr.setCell ⟨w.heap.size+1,3,none⟩ (.int .i64 (2+(id:Int)*4+3))) (w.heap.size+1) 244 (mY (2+4*id) 4).toArray from by
    have h:=C.o.bG 3 (.int .i64 (2+(id:Int)*4+3));rw[Q.o.2.2.2]at h ⊢;exact h)
   have B2:=xh (B.o.aU (p:=⟨w.heap.size+1,3,none⟩) (by simp) (.int .i64 (2+(id:Int)*4+3)));have O2:=xh (O.o.setCell (p:=⟨w.heap.size+1,3,none⟩) (by simp) (.int .i64 (2+(id:Int)*4+3)));go_wp2_with fail;go_roundw
   case rel=>exact⟨4,by omega,by first|rfl|simp,C2,B2,O2⟩
   case measure=>first|decide|simp[intOf]
  .have c0:=C.o.ab (i:=0) rfl;have c1:=C.o.ab (i:=1) rfl;have c2:=C.o.ab (i:=2) rfl;have c3:=C.o.ab (i:=3) rfl;have b0:=B.o.ab (i:=0) rfl;have b1:=B.o.ab (i:=1) rfl;have b2:=B.o.ab (i:=2) rfl;have b3:=B.o.ab (i:=3) rfl;have x0:=B.o.frozen 0 (by simp);have x1:=B.o.frozen 1 (by simp);have x2:=B.o.frozen 2 (by simp);have x3:=B.o.frozen 3 (by simp)
   have ZB:=xh ((((B.o.bG 0 (.int .i64 ((2+4*id:Nat):Int))).bG 1 (.int .i64 (((2+4*id:Nat):Int)+1))).bG 2 (.int .i64 (((2+4*id:Nat):Int)+2))).bG 3 (.int .i64 (((2+4*id:Nat):Int)+3)))
   have ZO:=xh ((((O.o.setCell (p:=⟨w.heap.size,0,none⟩) (aj _) (.int .i64 ((2+4*id:Nat):Int))).setCell (p:=⟨w.heap.size,1,none⟩) (aj _) (.int .i64 (((2+4*id:Nat):Int)+1))).setCell (p:=⟨w.heap.size,2,none⟩) (aj _) (.int .i64 (((2+4*id:Nat):Int)+2))).setCell (p:=⟨w.heap.size,3,none⟩) (aj _) (.int .i64 (((2+4*id:Nat):Int)+3)))
   simp only[mY,pH,eU,Dm,jh,bY,ff,kz,aj,List.getElem_cons_zero,IA,List.getElem_toArray]at c0 c1 c2 c3;generalize hKK:((2+4*id:Nat):Int)=K at *;have HKK:=xh hKK;clear hKK;go_wp2_with fail;exact bodyPost_ret (QN rfl rfl ZB.o) rfl ⟨by unfold pH;rw[HKK.o],ZO.o⟩
variable{d:D}{n:Nat}
theorem Bp(d:D)(h:d.bA<=9223372036854775807):d.cy.1.calls=d.calls+1/\d.cy.1.bA<=9223372036854775807:=by
 unfold D.cy
 split
 .exact⟨rfl,h⟩
 .split
  .exact⟨rfl,by show(0:Int)<=_;omega⟩
  .exact⟨rfl,by show d.bA-1<=_;omega⟩
theorem yn(d:D)(i:Nat):(d.ia i).calls=d.calls/\(d.ia i).bA=d.bA:=by unfold D.ia;split<;>exact⟨rfl,rfl⟩
theorem kg(d:D)(n:Nat)(i:Int)(s:List UInt8)(h:d.bA<=9223372036854775807):(d.aG n i s).1.calls<=d.calls+1/\(d.aG n i s).1.bA<=9223372036854775807:=by
 unfold D.aG
 split
 .have h1:(d.dv i.toNat s).calls=d.calls:=(yn d i.toNat).1;have h2:(d.dv i.toNat s).bA=d.bA:=(yn d i.toNat).2;have:=Bp (d.dv i.toNat s) (by omega);omega
 .exact⟨by show d.calls<=_;omega,h⟩
def w4(d:D)(n k:Nat)(b:List UInt8):Nat->D×Int
 |0=>(d,0)
 |i+1=>if(w4 d n k b i).2=0 then(w4 d n k b i).1.aG n ((k:Int)+i) ((b.drop (64*i)).take 64)else w4 d n k b i
theorem QO(d:D)(n k:Nat)(b:List UInt8)(i:Nat)(h:(w4 d n k b i).2=0):w4 d n k b (i+1)=(w4 d n k b i).1.aG n ((k:Int)+i) ((b.drop (64*i)).take 64):=by
 show(if _ then _ else _)=_;rw[if_pos h]
theorem Lt(d:D)(n k:Nat)(b:List UInt8)(i j:Nat)(h:(w4 d n k b i).2≠0)(hj:i<=j):w4 d n k b j=w4 d n k b i:=by
 induction j with
 |zero=>rw[show i=0 by omega]
 |succ j ih=>
  by_cases e:i=j+1
  .rw[e]
  .have:=ih (by omega);show(if _ then _ else _)=_;rw[this,if_neg h]
theorem QP(d:D)(n k:Nat)(b:List UInt8)(h:d.bA<=9223372036854775807):∀i,(w4 d n k b i).1.calls<=d.calls+i/\(w4 d n k b i).1.bA<=9223372036854775807
 |0=>⟨by simp[w4],h⟩
 |i+1=>by
  obtain⟨h1,h2⟩:=QP d n k b h i;unfold w4
  split
  .have:=kg (w4 d n k b i).1 n ((k:Int)+i) ((b.drop (64*i)).take 64) h2;omega
  .omega
theorem yo(h:d.Ok n)(k:Nat)(b:List UInt8):∀i,(w4 d n k b i).1.Ok n
 |0=>h
 |i+1=>by
  unfold w4
  split
  .exact(yo h k b i).write _ _
  .exact yo h k b i
def bo(d:D)(n:Nat)(id ep kd:Int)(s:List UInt8):D×Int:=
 if(dv id ep kd s).2≠0 then(d,(dv id ep kd s).2)
 else if(cq n:Int)<=id then(d,3)
 else w4 d n (2+4*id.toNat) (dv id ep kd s).1 4
theorem Bq(d:D)(n:Nat)(id ep kd:Int)(s:List UInt8)(h:d.bA<=9223372036854775807):(bo d n id ep kd s).1.calls<=d.calls+4/\(bo d n id ep kd s).1.bA<=9223372036854775807:=by
 unfold bo
 split
 .exact⟨by show d.calls<=_;omega,h⟩
 .split
  .exact⟨by show d.calls<=_;omega,h⟩
  .exact QP d n _ _ h 4
theorem yp{id ep kd:Int}{s:List UInt8}(h:(dv id ep kd s).2=0):(dv id ep kd s).1.length=256/\IV id ep kd=true:=by
 unfold dv at h ⊢
 split at h
 .rename_i fy;rw[if_pos fy]
  split at h
  .simp at h
  .rename_i hs;rw[if_neg hs];have h1:(eI (kO id ep kd s) 252).length=252:=by
    have:(kO id ep kd s).length=20+s.length:=by unfold kO;simp[eW,oq];omega
    unfold eI;rw[aQ,fi];omega
   refine⟨?_,fy⟩;show(j0 id ep kd s).length=256;unfold j0 jG.cf;rw[aQ,h1];simp[jG.js]
 .simp at h
theorem Br{w:World}{L:Dk.Loc}(h:aY w L n d)(id ep kd:Int)(s:ByteArray)(hid:id<=9223372036854775807)(he:(dv id ep kd s.data.toList).2≠0\/(cq n:Int)<=id):
  Calls prog 225 #[dp L.b,iP id ep kd s] w λe w'=>e=.returned (.int .i64 (bo d n id ep kd s.data.toList).2)/\aY w' L n (bo d n id ep kd s.data.toList).1/\Below w.heap.size w w':=by
 have O0:=xh (ae (Below.refl w.heap.size w) (.cells #[.int .i64 id,.int .i64 ep,.int .i64 kd,.string s] 162));have B0:=xh (aE.new w 162 #[.int .i64 id,.int .i64 ep,.int .i64 kd,.string s]);have K:=xh (λw=>Ft (w:=w) id ep kd s hid);have KM:=xh (λw' (hb:Below w.heap.size w w')=>nj (h.below hb));have HD:=xh h;have c0:=B0.o.ab (i:=0) rfl;have c1:=B0.o.ab (i:=1) rfl;have c2:=B0.o.ab (i:=2) rfl
 have c3:=B0.o.ab (i:=3) rfl;have Bs:((dv id ep kd s.data.toList).2≠0/\bo d n id ep kd s.data.toList=(d,(dv id ep kd s.data.toList).2))\/((dv id ep kd s.data.toList).2=0/\(cq n:Int)<=id/\bo d n id ep kd s.data.toList=(d,3)):=by
  by_cases h1:(dv id ep kd s.data.toList).2=0
  .have h2:=he.resolve_left (λh=>h h1);right;refine⟨h1,h2,?_⟩;unfold bo;rw[if_neg (by simpa using h1),if_pos h2]
  .left;refine⟨h1,?_⟩;unfold bo;rw[if_pos h1]
 generalize (dv id ep kd s.data.toList).2=er at *;generalize (⟨(dv id ep kd s.data.toList).1.toArray⟩:ByteArray)=S at *;generalize bo d n id ep kd s.data.toList=R at *;generalize cq n=mn at *;clear h he;unfold iP dp at *
 rcases Bs with⟨h1,h2⟩|⟨h1,h3,h2⟩
 .subst h2;have hb:(er != 0)=true:=by rw[bne_iff_ne];exact h1
  go_enter func225,ntmps225;go_wp2_with fail;refine(K.o _).mono ?_;rintro e w1 ⟨rfl,aJ⟩;have O1:=xh (au O0.o aJ);clear aJ;go_wp2_with fail;go_ret;exact⟨rfl,HD.o.below O1.o,O1.o⟩
 .subst h2;subst h1;go_enter func225,ntmps225;go_wp2_with fail;refine(K.o _).mono ?_;rintro e w1 ⟨rfl,aJ⟩;have O1:=xh (au O0.o aJ);have B1:=xh (B0.o.below aJ B0.o.lt);clear aJ c0 c1 c2 c3;have c0:=B1.o.ab (i:=0) rfl;go_wp2_with fail;have KX:=xh (λm=>KM.o (w1.drewN m) (cD O1.o m));go_quiet ((go_at_call 136;exact yh (KX.o _)));go_wp2_with fail;go_ret;exact⟨rfl,HD.o.below (cD O1.o _),cD O1.o _⟩
variable{w:World}{L:Dk.Loc}{n:Nat}{d:D}
theorem DG(a0 a1 a2 a3:Int)(w:World)(k:Nat)(x:Value)(hx: #[Value.int .i64 a0,.int .i64 a1,.int .i64 a2,.int .i64 a3][k]?=some x):
  (Instr.index 244 (.agg #[.int .i64 a0,.int .i64 a1,.int .i64 a2,.int .i64 a3]) (.int .i64 (k:Int))).run prog w=.ok x w:=by
 have hu:prog.underlying 244=some (.array 4 3):=by kernel_rfl
 have hm:(prog.info? 3).map (·.size)=some 1:=by kernel_rfl
 have hp:prog.plainKey 3=true:=by kernel_rfl
 have hk:k<4:=by
  rcases eT k 4 with h|h
  .exact h
  .rw[Qi (by simpa using h)]at hx;cases hx
 cases hq:prog.info? 3 with
 |none=>simp[hq]at hm
 |some i=>
  simp only[hq,mK,Option.some.injEq]at hm;have:=run_part_plain (P:=prog) w hp hx;simp[Instr.index,asIntOf,run_underlying hu,hk,sizeOf,typeInfo,hq,hm];exact this
theorem I2(h:aY w L n d)(id:Nat)(ep kd:Int)(s:ByteArray)(hp:(dv id ep kd s.data.toList).2=0)(hm:id<cq n)(hc:d.calls<=3999999999999999990)(hr:d.bA<=9223372036854775807):
  Calls prog 225 #[dp L.b,iP id ep kd s] w λe w'=>e=.returned (.int .i64 (w4 d n (2+4*id) (dv id ep kd s.data.toList).1 4).2)/\aY w' L n (w4 d n (2+4*id) (dv id ep kd s.data.toList).1 4).1/\ag L.fp w w':=by
 have hn:=h.ok.small;have hmn:cq n<=1023:=by unfold cq;omega
 have O0:=xh (ae (Below.refl w.heap.size w) (.cells #[.int .i64 (id:Nat),.int .i64 ep,.int .i64 kd,.string s] 162));have B0:=xh (aE.new w 162 #[.int .i64 (id:Nat),.int .i64 ep,.int .i64 kd,.string s]);have K:=λw=>Ft (w:=w) id ep kd s (by omega);have hlen:=(yp hp).1;rw[hp]at K;obtain⟨T,hT⟩:∃T:ByteArray,(⟨(dv id ep kd s.data.toList).1.toArray⟩:ByteArray)=T:=⟨_,rfl⟩;rw[hT]at K;have Lm:T.data.toList=(dv id ep kd s.data.toList).1:=by rw[<-hT]
 have hTs:T.size=256:=by rw[<-hT,iy,hlen]
 rw[<-Lm];have HX:=xh (show ∀i:Nat,(T.extract (64*i) (64*(i+1))).data.toList=(T.data.toList.drop (64*i)).take 64 from λi=>by rw[exl,show 64*(i+1)-64*i=64 by omega]);have K:=xh K;have KM:=xh (λw' (hb:Below w.heap.size w w')=>nj (h.below hb));have KS:=xh (λw=>oy (w:=w) id (by omega));have HB:=xh (QP d n (2+4*id) T.data.toList hr);have H4:=xh (QO d n (2+4*id) T.data.toList);have HS:=xh (Lt d n (2+4*id) T.data.toList)
 have HC:=xh hc;have HD:=xh h;have hmI:¬((cq n:Nat):Int)<=(id:Int):=by omega
 have c0:=B0.o.ab (i:=0) rfl;have c1:=B0.o.ab (i:=1) rfl;have c2:=B0.o.ab (i:=2) rfl;have c3:=B0.o.ab (i:=3) rfl;generalize cq n=mn at *;clear h hp hT Lm hlen hc hr;unfold iP dp pH at *;generalize hk:2+4*id=k at *;clear hk;go_enter func225,ntmps225;go_wp2_with fail;refine(K.o _).mono ?_;rintro e w1 ⟨rfl,aJ⟩;have O1:=xh (au O0.o aJ);have B1:=xh (B0.o.below aJ B0.o.lt);clear aJ c0 c1 c2 c3 K
 have c0:=B1.o.ab (i:=0) rfl;have KX:=xh (λm=>KM.o (w1.drewN m) (cD O1.o m));go_wp2_with fail;go_quiet ((go_at_call 136;exact yh (KX.o _)));have O2:=xh (cD O1.o nq);have B2:=xh (B1.o.drewN nq);generalize xH:w1.drewN nq=w2 at *;clear c0 O1 B1 xH KX KM;have c0:=B2.o.ab (i:=0) rfl;go_wp2_with fail;refine(KS.o _).mono ?_;rintro e w3 ⟨rfl,cZ⟩;have O3:=xh (au O2.o cZ);have D3:=xh (HD.o.below O3.o)
 clear cZ c0 KS O2 B2;go_wp2_with fail
 go_loopw [30] (λiv wr=> ∃i:Nat,i<=4/\iv=.int .i64 i/\Hid (aY wr L n (w4 d n k T.data.toList i).1)/\Hid ((w4 d n k T.data.toList i).2=0)/\Hid (ag L.fp w wr)) (λiv _=>4-(intOf iv).toNat)
 case atStart=>exact⟨0,by omega,rfl,D3,xh rfl,xh (.ai O3.o)⟩
 case round=>
  obtain⟨i,hi,rfl,DD,EZ,O⟩:=hrel;have ii:i=0\/i=1\/i=2\/i=3\/i=4:=by omega
  rcases ii with rfl|rfl|rfl|rfl|rfl
  .have bd:=HB.o 0;have KW:=lK DD.o ((k:Int)) (T.extract 0 64) (by have:=HC.o;omega) (by omega);have hx:=HX.o 0;have h4:=H4.o 0 EZ.o;rw[show(T.extract 0 64).data.toList=(T.data.toList.drop (64*0)).take 64 from hx,show((k:Int))=(k:Int)+((0:Nat):Int)from by omega,<-h4,show(k:Int)+((0:Nat):Int)=(k:Int)from by omega]at KW;have KW:=xh KW;clear hx h4 bd
   have IX:=xh (show(Instr.index 244 (.agg #[.int .i64 (k:Int),.int .i64 ((k:Int)+1),.int .i64 ((k:Int)+2),.int .i64 ((k:Int)+3)]) (.int .i64 0)).run prog wr=.ok (.int .i64 ((k:Int))) wr from DG (k:Int) ((k:Int)+1) ((k:Int)+2) ((k:Int)+3) wr 0 _ rfl);go_wp2_with fail;rw[IX.o];go_wp2_with fail;refine KW.o.mono ?_;rintro e wz ⟨rfl,dd,oz⟩;have DZ:=xh dd;have OZ:=xh (O.o.trans oz);clear dd oz KW
   by_cases hz:(w4 d n k T.data.toList 1).2=0
   .have HZ:=xh hz;have hq:((w4 d n k T.data.toList 1).2 != 0)=false:=by rw[hz];rfl
    clear hz;go_wp2_with fail;go_roundw
    case rel=>exact⟨1,by omega,by first|rfl|simp,DZ,HZ,OZ⟩
    case measure=>first|decide|simp[intOf]
   .have hs:=HS.o 1 4 hz (by omega);have QQ:=xh hs;have hq:((w4 d n k T.data.toList 1).2 != 0)=true:=by rw[bne_iff_ne];exact hz
    clear hz hs;go_wp2_with fail;go_ret;exact⟨by first|rfl|(rw[QQ.o];rfl),by first|exact DZ.o|(rw[QQ.o];exact DZ.o),OZ.o⟩
  .have bd:=HB.o 1;have KW:=lK DD.o ((k:Int)+1) (T.extract 64 128) (by have:=HC.o;omega) (by omega);have hx:=HX.o 1;have h4:=H4.o 1 EZ.o;rw[show(T.extract 64 128).data.toList=(T.data.toList.drop (64*1)).take 64 from hx,show((k:Int)+1)=(k:Int)+((1:Nat):Int)from by omega,<-h4,show(k:Int)+((1:Nat):Int)=(k:Int)+1 from by omega]at KW;have KW:=xh KW;clear hx h4 bd
   have IX:=xh (show(Instr.index 244 (.agg #[.int .i64 (k:Int),.int .i64 ((k:Int)+1),.int .i64 ((k:Int)+2),.int .i64 ((k:Int)+3)]) (.int .i64 1)).run prog wr=.ok (.int .i64 ((k:Int)+1)) wr from DG (k:Int) ((k:Int)+1) ((k:Int)+2) ((k:Int)+3) wr 1 _ rfl);go_wp2_with fail;rw[IX.o];go_wp2_with fail;refine KW.o.mono ?_;rintro e wz ⟨rfl,dd,oz⟩;have DZ:=xh dd;have OZ:=xh (O.o.trans oz);clear dd oz KW
   by_cases hz:(w4 d n k T.data.toList 2).2=0
   .have HZ:=xh hz;have hq:((w4 d n k T.data.toList 2).2 != 0)=false:=by rw[hz];rfl
    clear hz;go_wp2_with fail;go_roundw
    case rel=>exact⟨2,by omega,by first|rfl|simp,DZ,HZ,OZ⟩
    case measure=>first|decide|simp[intOf]
   .have hs:=HS.o 2 4 hz (by omega);have QQ:=xh hs;have hq:((w4 d n k T.data.toList 2).2 != 0)=true:=by rw[bne_iff_ne];exact hz
    clear hz hs;go_wp2_with fail;go_ret;exact⟨by first|rfl|(rw[QQ.o];rfl),by first|exact DZ.o|(rw[QQ.o];exact DZ.o),OZ.o⟩
  .have bd:=HB.o 2;have KW:=lK DD.o ((k:Int)+2) (T.extract 128 192) (by have:=HC.o;omega) (by omega);have hx:=HX.o 2;have h4:=H4.o 2 EZ.o;rw[show(T.extract 128 192).data.toList=(T.data.toList.drop (64*2)).take 64 from hx,show((k:Int)+2)=(k:Int)+((2:Nat):Int)from by omega,<-h4,show(k:Int)+((2:Nat):Int)=(k:Int)+2 from by omega]at KW;have KW:=xh KW;clear hx h4 bd
   have IX:=xh (show(Instr.index 244 (.agg #[.int .i64 (k:Int),.int .i64 ((k:Int)+1),.int .i64 ((k:Int)+2),.int .i64 ((k:Int)+3)]) (.int .i64 2)).run prog wr=.ok (.int .i64 ((k:Int)+2)) wr from DG (k:Int) ((k:Int)+1) ((k:Int)+2) ((k:Int)+3) wr 2 _ rfl);go_wp2_with fail;rw[IX.o];go_wp2_with fail;refine KW.o.mono ?_;rintro e wz ⟨rfl,dd,oz⟩;have DZ:=xh dd;have OZ:=xh (O.o.trans oz);clear dd oz KW
   by_cases hz:(w4 d n k T.data.toList 3).2=0
   .have HZ:=xh hz;have hq:((w4 d n k T.data.toList 3).2 != 0)=false:=by rw[hz];rfl
    clear hz;go_wp2_with fail;go_roundw
    case rel=>exact⟨3,by omega,by first|rfl|simp,DZ,HZ,OZ⟩
    case measure=>first|decide|simp[intOf]
   .have hs:=HS.o 3 4 hz (by omega);have QQ:=xh hs;have hq:((w4 d n k T.data.toList 3).2 != 0)=true:=by rw[bne_iff_ne];exact hz
    clear hz hs;go_wp2_with fail;go_ret;exact⟨by first|rfl|(rw[QQ.o];rfl),by first|exact DZ.o|(rw[QQ.o];exact DZ.o),OZ.o⟩
  .have bd:=HB.o 3;have KW:=lK DD.o ((k:Int)+3) (T.extract 192 256) (by have:=HC.o;omega) (by omega);have hx:=HX.o 3;have h4:=H4.o 3 EZ.o;rw[show(T.extract 192 256).data.toList=(T.data.toList.drop (64*3)).take 64 from hx,show((k:Int)+3)=(k:Int)+((3:Nat):Int)from by omega,<-h4,show(k:Int)+((3:Nat):Int)=(k:Int)+3 from by omega]at KW;have KW:=xh KW;clear hx h4 bd
   have IX:=xh (show(Instr.index 244 (.agg #[.int .i64 (k:Int),.int .i64 ((k:Int)+1),.int .i64 ((k:Int)+2),.int .i64 ((k:Int)+3)]) (.int .i64 3)).run prog wr=.ok (.int .i64 ((k:Int)+3)) wr from DG (k:Int) ((k:Int)+1) ((k:Int)+2) ((k:Int)+3) wr 3 _ rfl);go_wp2_with fail;rw[IX.o];go_wp2_with fail;refine KW.o.mono ?_;rintro e wz ⟨rfl,dd,oz⟩;have DZ:=xh dd;have OZ:=xh (O.o.trans oz);clear dd oz KW
   by_cases hz:(w4 d n k T.data.toList 4).2=0
   .have HZ:=xh hz;have hq:((w4 d n k T.data.toList 4).2 != 0)=false:=by rw[hz];rfl
    clear hz;go_wp2_with fail;go_roundw
    case rel=>exact⟨4,by omega,by first|rfl|simp,DZ,HZ,OZ⟩
    case measure=>first|decide|simp[intOf]
   .have hs:=HS.o 4 4 hz (by omega);have QQ:=xh hs;have hq:((w4 d n k T.data.toList 4).2 != 0)=true:=by rw[bne_iff_ne];exact hz
    clear hz hs;go_wp2_with fail;go_ret;exact⟨by first|rfl|(rw[QQ.o];rfl),by first|exact DZ.o|(rw[QQ.o];exact DZ.o),OZ.o⟩
  .go_wp2_with fail;go_ret;exact⟨by rw[EZ.o];rfl,DD.o,O.o⟩
theorem I3(h:aY w L n d)(id ep kd:Int)(s:ByteArray)(hid:id<=9223372036854775807)(hc:d.calls<=3999999999999999990)(hr:d.bA<=9223372036854775807):
  Calls prog 225 #[dp L.b,iP id ep kd s] w λe w'=>e=.returned (.int .i64 (bo d n id ep kd s.data.toList).2)/\aY w' L n (bo d n id ep kd s.data.toList).1/\ag L.fp w w':=by
 by_cases hp:(dv id ep kd s.data.toList).2=0
 .by_cases hm:(cq n:Int)<=id
  .exact(Br h id ep kd s hid (.inr hm)).mono λe w' hx=>⟨hx.1,hx.2.1,.ai hx.2.2⟩
  .have fy:=(qH id ep kd).1 (yp hp).2;obtain⟨a,rfl⟩:=dL fy.1;have e1:bo d n a ep kd s.data.toList=w4 d n (2+4*a) (dv a ep kd s.data.toList).1 4:=by
    unfold bo;rw[if_neg (by simpa using hp),if_neg hm];rfl
   rw[e1];exact I2 h a ep kd s hp (by omega) hc hr
 .exact(Br h id ep kd s hid (.inl hp)).mono λe w' hx=>⟨hx.1,hx.2.1,.ai hx.2.2⟩
attribute [local go_sem ↓] uA
variable{w:World}{L:Dk.Loc}{n:Nat}{d:D}
def bR(d:D)(n:Nat)(id:Int):PG×Int:=
 if id<0\/(cq n:Int)<=id then(.zero,3)
 else if d.down=true then(.zero,13)
 else if(jl ((d.now.drop (64*(2+4*id.toNat))).take 256)).2≠0 then(.zero,(jl ((d.now.drop (64*(2+4*id.toNat))).take 256)).2)
 else if(jl ((d.now.drop (64*(2+4*id.toNat))).take 256)).1.id≠id then(.zero,14)
 else((jl ((d.now.drop (64*(2+4*id.toNat))).take 256)).1,0)
theorem pI(F:List UInt8)(k i:Nat):(F.drop (64*k)).take (64*(i+1))=(F.drop (64*k)).take (64*i)++sec F (k+i):=by
 unfold sec;rw[show 64*(i+1)=64*i+64 by omega,List.take_add,ji,show 64*k+64*i=64*(k+i) by omega]
theorem DH(d:D)(n:Nat)(k:Nat)(h:k<n):d.jm n k=if d.down=true then 13 else 0:=by
 unfold D.jm;rw[if_pos (show 0<=(k:Int)/\(k:Int)<n by omega)]
theorem I4(d:D)(n:Nat)(k:Nat)(h:k<n)(hd:d.down=true):d.aR n k=([],13):=by
 unfold D.aR;rw[DH d n k h,if_pos hd];rfl
theorem QR(d:D)(n:Nat)(k:Nat)(h:k<n)(hd:d.down=false):d.aR n k=(sec d.now k,0):=by
 unfold D.aR;rw[DH d n k h];simp[hd]
theorem M8(b:Nat)(id:Int)(h:id<0):
  Calls prog 139 #[dp b,.int .i64 id] w λe w'=>e=.returned (.tuple #[PG.zero.val,.int .i64 3])/\Below w.heap.size w w':=by
 have B0:=xh (aE.new w 162 hX);have O0:=xh (ae (Below.refl w.heap.size w) (.cells hX 162));unfold dp;go_enter func139,ntmps139;go_wp2_with fail;exact bodyPost_ret (dO rfl rfl B0.o) rfl ⟨rfl,O0.o⟩
theorem M9(hd:aY w L n d)(id:Int)(h0:0<=id)(h:(cq n:Int)<=id):
  Calls prog 139 #[dp L.b,.int .i64 id] w λe w'=>e=.returned (.tuple #[PG.zero.val,.int .i64 3])/\Below w.heap.size w w':=by
 have B0:=xh (aE.new w 162 hX);have O0:=ae (Below.refl w.heap.size w) (.cells hX 162);have K:=xh (nj (hd.below O0));have O0:=xh O0;have h1:¬id<0:=by omega
 clear hd;have z0:=B0.o.frozen 0 (by simp);have z1:=B0.o.frozen 1 (by simp);have z2:=B0.o.frozen 2 (by simp);have z3:=B0.o.frozen 3 (by simp);have c0:=B0.o.ab (i:=0) rfl;have c1:=B0.o.ab (i:=1) rfl;have c2:=B0.o.ab (i:=2) rfl;have c3:=B0.o.ab (i:=3) rfl;have ZB:=xh (iU B0.o rfl 0 0 0 ⟨#[]⟩);have ZO:=xh (fj O0.o (aj _) 0 0 0 ⟨#[]⟩);unfold dp at *;go_enter func139,ntmps139;go_wp2_with fail
 refine K.o.mono ?_;rintro e w1 ⟨rfl,rfl⟩;go_wp2_with fail;exact bodyPost_ret (dO rfl rfl B0.o) rfl ⟨rfl,O0.o⟩
theorem I5(hd:aY w L n d)(id:Nat)(h:id<cq n)(hdn:d.down=true):
  Calls prog 139 #[dp L.b,.int .i64 (id:Nat)] w λe w'=>e=.returned (.tuple #[PG.zero.val,.int .i64 13])/\Below w.heap.size w w':=by
 have hn:=hd.ok.small;have hmn:cq n<=1023:=by unfold cq;omega
 have AH:2+4*id<n:=by unfold cq at h;omega
 have B0:=xh (aE.new w 162 hX);have O0:=ae (Below.refl w.heap.size w) (.cells hX 162);have K:=xh (nj (hd.below O0));have O0:=xh O0;have KS:=xh (λw=>oy (w:=w) id (by omega));have KR:=λw' (hb:Below w.heap.size w w')=>ni (hd.below hb) ((2+4*id:Nat):Int);rw[I4 d n _ AH hdn]at KR;have KR:=xh KR;have h1:¬((id:Nat):Int)<0:=by omega
 have h2:¬((cq n:Nat):Int)<=(id:Int):=by omega
 clear hd;generalize cq n=mn at *;generalize 2+4*id=k at *;unfold dp pH at *;go_enter func139,ntmps139;go_wp2_with fail;refine K.o.mono ?_;rintro e w1 ⟨rfl,rfl⟩;go_wp2_with fail;refine(KS.o _).mono ?_;rintro e w2 ⟨rfl,bS⟩;have O2:=xh (au O0.o bS);have B2:=xh (B0.o.below bS B0.o.lt);clear bS;have z0:=B2.o.frozen 0 (by simp);have z1:=B2.o.frozen 1 (by simp);have z2:=B2.o.frozen 2 (by simp);have z3:=B2.o.frozen 3 (by simp)
 have c0:=B2.o.ab (i:=0) rfl;have c1:=B2.o.ab (i:=1) rfl;have c2:=B2.o.ab (i:=2) rfl;have c3:=B2.o.ab (i:=3) rfl;have ZB:=xh (iU B2.o rfl 0 0 0 ⟨#[]⟩);have ZO:=xh (fj O2.o (aj _) 0 0 0 ⟨#[]⟩)
 have IX:=xh (show(Instr.index 244 (.agg #[.int .i64 (k:Int),.int .i64 ((k:Int)+1),.int .i64 ((k:Int)+2),.int .i64 ((k:Int)+3)]) (.int .i64 0)).run prog w2=.ok (.int .i64 (k:Int)) w2 from DG (k:Int) ((k:Int)+1) ((k:Int)+2) ((k:Int)+3) w2 0 _ rfl);go_wp2_with fail
 go_loopw [6,29] (λbv iv wr=>bv=.slice none 0 0/\iv=.int .i64 0/\wr=w2) (λ_ _ _=>0)
 case atStart=>exact⟨rfl,rfl,rfl⟩
 case round=>
  obtain⟨rfl,rfl,rfl⟩:=hrel;go_wp2_with fail;rw[IX.o];go_wp2_with fail;refine(KR.o _ O2.o).mono ?_;rintro e w3 ⟨rfl,rfl⟩;go_wp2_with fail;exact bodyPost_ret (dO rfl rfl ZB.o) rfl ⟨rfl,ZO.o⟩
theorem QT(hd:aY w L n d)(id:Nat)(h:id<cq n)(hdn:d.down=false):
  Calls prog 139 #[dp L.b,.int .i64 (id:Nat)] w λe w'=>e=.returned (.tuple #[(bR d n id).1.val,.int .i64 (bR d n id).2])/\Below w.heap.size w w':=by
 have hn:=hd.ok.small;have hnow:=hd.ok.now;have hmn:cq n<=1023:=by unfold cq;omega
 have AH:2+4*id+3<n:=by unfold cq at h;omega
 have B0:=xh (aE.new w 162 hX);have O0:=ae (Below.refl w.heap.size w) (.cells hX 162);have K:=xh (nj (hd.below O0));have O0:=xh O0;have KS:=xh (λw=>oy (w:=w) id (by omega));have KR:=λi (hi:i<=3) w' (hb:Below w.heap.size w w')=>by
  have h:=ni (hd.below hb) ((2+4*id+i:Nat):Int);rw[QR d n _ (by omega) hdn]at h;exact h
 have KR:=xh KR;obtain⟨l,hl⟩:∃l,(d.now.drop (64*(2+4*id))).take 256=l:=⟨_,rfl⟩;have AJ:bR d n id=if(jl l).2≠0 then(.zero,(jl l).2)else if(jl l).1.id≠(id:Int)then(.zero,14)else((jl l).1,0):=by
  unfold bR;rw[if_neg (by omega),if_neg (by simp[hdn]),show((id:Nat):Int).toNat=id from by omega,hl]
 generalize bR d n id=R at *;have HR:=xh AJ;have Na:=xh (show((d.now.drop (64*(2+4*id))).take 256).length=256 from by rw[bK,de];omega);have HNX:=xh (pI d.now (2+4*id));have HL:=xh hl;have KG:=xh (λw=>QH (w:=w) ⟨l.toArray⟩);have DI:=xh (show ∀i,i<=4->((d.now.drop (64*(2+4*id))).take (64*i)).length=64*i from λi hi=>by rw[bK,de];omega)
 have HSZ:=xh (show ∀i,i<=3->(sec d.now (2+4*id+i)).length=64 from λi hi=>l7 hnow (by omega));have h1:¬((id:Nat):Int)<0:=by omega
 have h2:¬((cq n:Nat):Int)<=(id:Int):=by omega
 clear hd hl AJ hnow;generalize cq n=mn at *;generalize 2+4*id=k at *;unfold dp pH at *;go_enter func139,ntmps139;go_wp2_with fail;refine K.o.mono ?_;rintro e w1 ⟨rfl,rfl⟩;go_wp2_with fail;refine(KS.o _).mono ?_;rintro e w2 ⟨rfl,bS⟩;have O2:=xh (au O0.o bS);have B2:=xh (B0.o.below bS B0.o.lt);have y2:=B2.o.lt;clear bS B0 O0 K KS;go_wp2_with fail
 go_loopw [6,29] (λbv iv wr=> ∃i:Nat,i<=4/\iv=.int .i64 i/\aK wr 5 1 bv (64*i) (dh ((d.now.drop (64*k)).take (64*i)))/\Hid (Below w.heap.size w wr)/\Hid (Below w2.heap.size w2 wr)/\Hid (∀g∈ah bv,w2.heap.size<=g)) (λ_ iv _=>4-(intOf iv).toNat)
 case atStart=>exact⟨0,by omega,rfl,by rw[xw,iM];exact aK.nil _ _ _,O2,xh (Below.refl _ _),xh (by simp[ah])⟩
 case round=>
  obtain⟨i,hi,rfl,S,O,OB,F⟩:=hrel;have ii:i=0\/i=1\/i=2\/i=3\/i=4:=by omega
  rcases ii with rfl|rfl|rfl|rfl|rfl
  .have hr:=KR.o 0 (by omega) _ O.o;rw[show((k+0:Nat):Int)=(k:Int)from by omega]at hr;have QU:=xh hr;have S:aK wr 5 1 _ 0 (dh ((d.now.drop (64*k)).take 0)):=S;obtain⟨V1,sM,rfl⟩:=ao S;obtain⟨U,hU⟩:∃U:ByteArray,(⟨(sec d.now (k+0)).toArray⟩:ByteArray)=U:=⟨_,rfl⟩;rw[hU]at QU;have Fs:U.data.toList=sec d.now (k+0):=by rw[<-hU]
   have PO:U.size=64:=by rw[<-hU,iy];exact HSZ.o 0 (by omega)
   obtain⟨v2,w4,ea,S2,ow,fr⟩:=ix (P:=prog) S 150 9 150 underlying150 underlying9 jG.dU U (by rw[PO];omega);obtain⟨V2,hJ,rfl⟩:=ao S2;rw[PO]at ea S2 fr;have EA:=xh (show pE prog 150 9 150 wr (.slice V1 0 sM) (.string U)= .ok (.slice V2 64 hJ) w4 from ea);have SX:=xh (show aK w4 5 1 (.slice V2 64 hJ) (64*1) (dh ((d.now.drop (64*k)).take (64*1)))from by
    have hn:=HNX.o 0;rw[show 64*(0+1)=64*1 from rfl,<-Fs]at hn;rw[hn,cw];exact S2)
   have OX:=xh (O.o.trans (ow.aO O.o.size (λg hg=>ay O2.o.size (F.o g hg))));have OBX:=xh (OB.o.trans (ow.aO OB.o.size F.o));have FX:=xh (show ∀g∈ah (.slice V2 64 hJ),w2.heap.size<=g from λg hg=>(fr g hg).elim (F.o g) (λh=>ay OB.o.size h))
   have IX:=xh (show(Instr.index 244 (.agg #[.int .i64 (k:Int),.int .i64 ((k:Int)+1),.int .i64 ((k:Int)+2),.int .i64 ((k:Int)+3)]) (.int .i64 0)).run prog wr=.ok (.int .i64 ((k:Int))) wr from DG (k:Int) ((k:Int)+1) ((k:Int)+2) ((k:Int)+3) wr 0 _ rfl);clear hr ea S2 ow fr S hU Fs;go_wp2_with fail;rw[IX.o];go_wp2_with fail;refine QU.o.mono ?_;rintro e wz ⟨rfl,rfl⟩;go_wp2_with fail;rw[EA.o];go_wp2_with fail;go_roundw
   case rel=>exact⟨1,by omega,by first|rfl|simp,SX.o,OX,OBX,FX⟩
   case measure=>first|decide|simp[intOf]
  .have hr:=KR.o 1 (by omega) _ O.o;rw[show((k+1:Nat):Int)=(k:Int)+1 from by omega]at hr;have QU:=xh hr;have S:aK wr 5 1 _ 64 (dh ((d.now.drop (64*k)).take 64)):=S;obtain⟨V1,sM,rfl⟩:=ao S;obtain⟨U,hU⟩:∃U:ByteArray,(⟨(sec d.now (k+1)).toArray⟩:ByteArray)=U:=⟨_,rfl⟩;rw[hU]at QU;have Fs:U.data.toList=sec d.now (k+1):=by rw[<-hU]
   have PO:U.size=64:=by rw[<-hU,iy];exact HSZ.o 1 (by omega)
   obtain⟨v2,w4,ea,S2,ow,fr⟩:=ix (P:=prog) S 150 9 150 underlying150 underlying9 jG.dU U (by rw[PO];omega);obtain⟨V2,hJ,rfl⟩:=ao S2;rw[PO]at ea S2 fr;have EA:=xh (show pE prog 150 9 150 wr (.slice V1 64 sM) (.string U)= .ok (.slice V2 128 hJ) w4 from ea);have SX:=xh (show aK w4 5 1 (.slice V2 128 hJ) (64*2) (dh ((d.now.drop (64*k)).take (64*2)))from by
    have hn:=HNX.o 1;rw[show 64*(1+1)=64*2 from rfl,<-Fs]at hn;rw[hn,cw];exact S2)
   have OX:=xh (O.o.trans (ow.aO O.o.size (λg hg=>ay O2.o.size (F.o g hg))));have OBX:=xh (OB.o.trans (ow.aO OB.o.size F.o));have FX:=xh (show ∀g∈ah (.slice V2 128 hJ),w2.heap.size<=g from λg hg=>(fr g hg).elim (F.o g) (λh=>ay OB.o.size h))
   have IX:=xh (show(Instr.index 244 (.agg #[.int .i64 (k:Int),.int .i64 ((k:Int)+1),.int .i64 ((k:Int)+2),.int .i64 ((k:Int)+3)]) (.int .i64 1)).run prog wr=.ok (.int .i64 ((k:Int)+1)) wr from DG (k:Int) ((k:Int)+1) ((k:Int)+2) ((k:Int)+3) wr 1 _ rfl);clear hr ea S2 ow fr S hU Fs;go_wp2_with fail;rw[IX.o];go_wp2_with fail;refine QU.o.mono ?_;rintro e wz ⟨rfl,rfl⟩;go_wp2_with fail;rw[EA.o];go_wp2_with fail;go_roundw
   case rel=>exact⟨2,by omega,by first|rfl|simp,SX.o,OX,OBX,FX⟩
   case measure=>first|decide|simp[intOf]
  .have hr:=KR.o 2 (by omega) _ O.o;rw[show((k+2:Nat):Int)=(k:Int)+2 from by omega]at hr;have QU:=xh hr;have S:aK wr 5 1 _ 128 (dh ((d.now.drop (64*k)).take 128)):=S;obtain⟨V1,sM,rfl⟩:=ao S;obtain⟨U,hU⟩:∃U:ByteArray,(⟨(sec d.now (k+2)).toArray⟩:ByteArray)=U:=⟨_,rfl⟩;rw[hU]at QU;have Fs:U.data.toList=sec d.now (k+2):=by rw[<-hU]
   have PO:U.size=64:=by rw[<-hU,iy];exact HSZ.o 2 (by omega)
   obtain⟨v2,w4,ea,S2,ow,fr⟩:=ix (P:=prog) S 150 9 150 underlying150 underlying9 jG.dU U (by rw[PO];omega);obtain⟨V2,hJ,rfl⟩:=ao S2;rw[PO]at ea S2 fr;have EA:=xh (show pE prog 150 9 150 wr (.slice V1 128 sM) (.string U)= .ok (.slice V2 192 hJ) w4 from ea);have SX:=xh (show aK w4 5 1 (.slice V2 192 hJ) (64*3) (dh ((d.now.drop (64*k)).take (64*3)))from by
    have hn:=HNX.o 2;rw[show 64*(2+1)=64*3 from rfl,<-Fs]at hn;rw[hn,cw];exact S2)
   have OX:=xh (O.o.trans (ow.aO O.o.size (λg hg=>ay O2.o.size (F.o g hg))));have OBX:=xh (OB.o.trans (ow.aO OB.o.size F.o));have FX:=xh (show ∀g∈ah (.slice V2 192 hJ),w2.heap.size<=g from λg hg=>(fr g hg).elim (F.o g) (λh=>ay OB.o.size h))
   have IX:=xh (show(Instr.index 244 (.agg #[.int .i64 (k:Int),.int .i64 ((k:Int)+1),.int .i64 ((k:Int)+2),.int .i64 ((k:Int)+3)]) (.int .i64 2)).run prog wr=.ok (.int .i64 ((k:Int)+2)) wr from DG (k:Int) ((k:Int)+1) ((k:Int)+2) ((k:Int)+3) wr 2 _ rfl);clear hr ea S2 ow fr S hU Fs;go_wp2_with fail;rw[IX.o];go_wp2_with fail;refine QU.o.mono ?_;rintro e wz ⟨rfl,rfl⟩;go_wp2_with fail;rw[EA.o];go_wp2_with fail;go_roundw
   case rel=>exact⟨3,by omega,by first|rfl|simp,SX.o,OX,OBX,FX⟩
   case measure=>first|decide|simp[intOf]
  .have hr:=KR.o 3 (by omega) _ O.o;rw[show((k+3:Nat):Int)=(k:Int)+3 from by omega]at hr;have QU:=xh hr;have S:aK wr 5 1 _ 192 (dh ((d.now.drop (64*k)).take 192)):=S;obtain⟨V1,sM,rfl⟩:=ao S;obtain⟨U,hU⟩:∃U:ByteArray,(⟨(sec d.now (k+3)).toArray⟩:ByteArray)=U:=⟨_,rfl⟩;rw[hU]at QU;have Fs:U.data.toList=sec d.now (k+3):=by rw[<-hU]
   have PO:U.size=64:=by rw[<-hU,iy];exact HSZ.o 3 (by omega)
   obtain⟨v2,w4,ea,S2,ow,fr⟩:=ix (P:=prog) S 150 9 150 underlying150 underlying9 jG.dU U (by rw[PO];omega);obtain⟨V2,hJ,rfl⟩:=ao S2;rw[PO]at ea S2 fr;have EA:=xh (show pE prog 150 9 150 wr (.slice V1 192 sM) (.string U)= .ok (.slice V2 256 hJ) w4 from ea);have SX:=xh (show aK w4 5 1 (.slice V2 256 hJ) (64*4) (dh ((d.now.drop (64*k)).take (64*4)))from by
    have hn:=HNX.o 3;rw[show 64*(3+1)=64*4 from rfl,<-Fs]at hn;rw[hn,cw];exact S2)
   have OX:=xh (O.o.trans (ow.aO O.o.size (λg hg=>ay O2.o.size (F.o g hg))));have OBX:=xh (OB.o.trans (ow.aO OB.o.size F.o));have FX:=xh (show ∀g∈ah (.slice V2 256 hJ),w2.heap.size<=g from λg hg=>(fr g hg).elim (F.o g) (λh=>ay OB.o.size h))
   have IX:=xh (show(Instr.index 244 (.agg #[.int .i64 (k:Int),.int .i64 ((k:Int)+1),.int .i64 ((k:Int)+2),.int .i64 ((k:Int)+3)]) (.int .i64 3)).run prog wr=.ok (.int .i64 ((k:Int)+3)) wr from DG (k:Int) ((k:Int)+1) ((k:Int)+2) ((k:Int)+3) wr 3 _ rfl);clear hr ea S2 ow fr S hU Fs;go_wp2_with fail;rw[IX.o];go_wp2_with fail;refine QU.o.mono ?_;rintro e wz ⟨rfl,rfl⟩;go_wp2_with fail;rw[EA.o];go_wp2_with fail;go_roundw
   case rel=>exact⟨4,by omega,by first|rfl|simp,SX.o,OX,OBX,FX⟩
   case measure=>first|decide|simp[intOf]
  .have ST:=xh (tr (P:=prog) S 150 9 underlying150 underlying5 underlying9);rw[show 64*4=256 from rfl,HL.o]at ST;obtain⟨VA,vc,rfl⟩:=ao S;have B3:=xh (B2.o.below OB.o y2);clear S;go_wp2_with fail;rw[ST.o];go_wp2_with fail;refine(KG.o _).mono ?_;rintro e w5 ⟨rfl,mD⟩;obtain⟨P,hP⟩:∃P,(jl l).1=P:=⟨_,rfl⟩;obtain⟨er,wW⟩:∃er,(jl l).2=er:=⟨_,rfl⟩;have GP:=xh (And.intro hP wW);rw[hP,wW];clear hP wW;obtain⟨pid,pep,pkd,ps⟩:=P
   have O6:=xh (ae (au O.o mD) (.cells #[.int .i64 pid,.int .i64 pep,.int .i64 pkd,.string ⟨ps.toArray⟩] 162));have B6:=xh ((B3.o.below mD B3.o.lt).alloc (.cells #[.int .i64 pid,.int .i64 pep,.int .i64 pkd,.string ⟨ps.toArray⟩] 162));have P6:=xh (aE.new w5 162 #[.int .i64 pid,.int .i64 pep,.int .i64 pkd,.string ⟨ps.toArray⟩]);clear mD B3;unfold PG.val iP;dsimp only;have z0:=B6.o.frozen 0 (by simp);have z1:=B6.o.frozen 1 (by simp)
   have z2:=B6.o.frozen 2 (by simp);have z3:=B6.o.frozen 3 (by simp);have c0:=B6.o.ab (i:=0) rfl;have c1:=B6.o.ab (i:=1) rfl;have c2:=B6.o.ab (i:=2) rfl;have c3:=B6.o.ab (i:=3) rfl;have p0:=P6.o.ab (i:=0) rfl;have p1:=P6.o.ab (i:=1) rfl;have p2:=P6.o.ab (i:=2) rfl;have p3:=P6.o.ab (i:=3) rfl;have ZB:=xh (iU B6.o rfl 0 0 0 ⟨#[]⟩);have ZO:=xh (fj O6.o (aj _) 0 0 0 ⟨#[]⟩)
   have YB:=xh (iU B6.o rfl pid pep pkd ⟨ps.toArray⟩);have YO:=xh (fj O6.o (aj _) pid pep pkd ⟨ps.toArray⟩)
   by_cases wW:er=0
   .subst wW
    by_cases hpi:pid=id
    .have hq:(pid != (id:Int))=false:=by rw[bne_eq_false_iff_eq];exact hpi
     have RES:=xh (show(if(jl l).2≠0 then(PG.zero,(jl l).2)else if(jl l).1.id≠(id:Int)then(PG.zero,14)else((jl l).1,0))=(⟨pid,pep,pkd,ps⟩,0)from by
      rw[GP.o.1,GP.o.2];simp[hpi])
     clear hpi;go_wp2_with fail;exact bodyPost_ret (dO rfl rfl YB.o) rfl ⟨by rw[HR.o.trans RES.o];rfl,YO.o⟩
    .have hq:(pid != (id:Int))=true:=by rw[bne_iff_ne];exact hpi
     have RES:=xh (show(if(jl l).2≠0 then(PG.zero,(jl l).2)else if(jl l).1.id≠(id:Int)then(PG.zero,14)else((jl l).1,0))=(PG.zero,14)from by
      rw[GP.o.1,GP.o.2];simp[hpi])
     clear hpi;go_wp2_with fail;exact bodyPost_ret (dO rfl rfl ZB.o) rfl ⟨by rw[HR.o.trans RES.o];rfl,ZO.o⟩
   .have hq:(er != 0)=true:=by rw[bne_iff_ne];exact wW
    have RES:=xh (show(if(jl l).2≠0 then(PG.zero,(jl l).2)else if(jl l).1.id≠(id:Int)then(PG.zero,14)else((jl l).1,0))=(PG.zero,er)from by
     rw[GP.o.1,GP.o.2,if_pos wW])
    clear wW;go_wp2_with fail;exact bodyPost_ret (dO rfl rfl ZB.o) rfl ⟨by rw[HR.o.trans RES.o];rfl,ZO.o⟩
theorem Nb(hd:aY w L n d)(id:Int):
  Calls prog 139 #[dp L.b,.int .i64 id] w λe w'=>e=.returned (.tuple #[(bR d n id).1.val,.int .i64 (bR d n id).2])/\Below w.heap.size w w':=by
 by_cases h0:id<0
 .have:bR d n id=(.zero,3):=by unfold bR;rw[if_pos (.inl h0)]
  rw[this];exact M8 L.b id h0
 .by_cases h1:(cq n:Int)<=id
  .have:bR d n id=(.zero,3):=by unfold bR;rw[if_pos (.inr h1)]
   rw[this];exact M9 hd id (by omega) h1
  .obtain⟨a,rfl⟩:=dL (show 0<=id by omega)
   cases hdn:d.down
   .exact QT hd a (by omega) hdn
   .have:bR d n a=(.zero,13):=by unfold bR;rw[if_neg (by omega),if_pos hdn]
    rw[this];exact I5 hd a (by omega) hdn
end Pg
namespace Pg
open Go.RowKit Pk Dk
variable{d:D}{n k:Nat}
theorem beN_be8(N:Nat)(h:N<18446744073709551616):lJ (vP N)=N:=by
 have e:vP N=[UInt8.ofNat (N / 72057594037927936),UInt8.ofNat (N / 281474976710656),UInt8.ofNat (N / 1099511627776),UInt8.ofNat (N / 4294967296),UInt8.ofNat (N / 16777216),UInt8.ofNat (N / 65536),UInt8.ofNat (N / 256),UInt8.ofNat (N / 1)]:=rfl;rw[e];simp only[lJ,Db,List.foldl_nil,gZ];omega
theorem uD(n:Int)(h0:0<=n)(h1:n<=9223372036854775807):(lJ (dj n):Int)-9223372036854775808=n:=by
 unfold dj;rw[beN_be8 _ (by omega)];omega
theorem beN_kd(N:Nat)(h:N<=2147483647):lJ ((vP N).drop 4)=N:=by
 rw[QF];simp only[lJ,Db,List.foldl_nil,gZ];omega
theorem tx{α}(a b:List α)(n:Nat)(h:a.length=n):(a++b).take n=a:=by rw[qz (by omega),bY (by omega)]
theorem tA{α}(a b:List α)(n:Nat)(h:a.length=n):(a++b).drop n=b:=by rw[<-h];exact rN
theorem Bt(id ep kd:Int)(s:List UInt8)(h:s.length<=232):eI (kO id ep kd s) 252=dj id++(dj ep++((vP kd.toNat).drop 4++eI s 232)):=by
 rw[<-QG id ep kd s h];simp only[cL]
theorem Nc{id ep kd:Int}{s:List UInt8}(fy:IV id ep kd=true)(hid:id<=9223372036854775807)(hs:s.length<=232):
  jl (j0 id ep kd s)=(⟨id,ep,kd,eI s 232⟩,0):=by
 have hb:=(qH id ep kd).1 fy;have Dy:(eI (kO id ep kd s) 252).length=252:=by
  have:(kO id ep kd s).length=20+s.length:=by unfold kO;simp[eW,oq];omega
  unfold eI;rw[aQ,fi];omega
 have hd4:(j0 id ep kd s).drop 4=eI (kO id ep kd s) 252:=tA _ _ 4 rfl;have ht4:(j0 id ep kd s).take 4=jG.js (jG.kM (eI (kO id ep kd s) 252)):=tx _ _ 4 rfl;have hlen:(j0 id ep kd s).length=256:=by
  unfold j0 jG.cf;rw[aQ,Dy];rfl
 have f4:((vP kd.toNat).drop 4).length=4:=by rw[de,oq]
 have e1:(j0 id ep kd s).drop 12=dj ep++((vP kd.toNat).drop 4++eI s 232):=by
  rw[show 12=4+8 from rfl,<-ji,hd4,Bt _ _ _ _ hs];exact tA _ _ 8 (eW _)
 have e2:(j0 id ep kd s).drop 20=(vP kd.toNat).drop 4++eI s 232:=by
  rw[show 20=12+8 from rfl,<-ji,e1];exact tA _ _ 8 (eW _)
 have e3:(j0 id ep kd s).drop 24=eI s 232:=by
  rw[show 24=20+4 from rfl,<-ji,e2];exact tA _ _ 4 f4
 have hdec:kZ (j0 id ep kd s)=⟨id,ep,kd,eI s 232⟩:=by
  unfold kZ;rw[e1,e2,e3,hd4,Bt _ _ _ _ hs,tx _ _ 8 (eW _),tx _ _ 8 (eW _),tx _ _ 4 f4,uD id hb.1 hid,uD ep hb.2.1 (by omega),beN_kd _ (by omega)]
  congr 1
  omega
 unfold jl;rw[if_neg (by rw[hlen];simp),hd4,ht4,if_neg (by simp),hdec];simp only[fy,if_true]
theorem Bu(d:D):d.cy.1.now=d.now:=by
 unfold D.cy
 split
 .rfl
 .split<;>rfl
theorem vQ(d:D)(h:d.bA=0):d.cy.2=0/\d.cy.1.bA=0/\d.cy.1.down=d.down:=by
 unfold D.cy;rw[if_pos h];exact⟨rfl,h,rfl⟩
theorem yq(d:D)(i:Nat):(d.ia i).bA=d.bA/\(d.ia i).down=d.down:=by unfold D.ia;split<;>exact⟨rfl,rfl⟩
theorem jn(hd:d.down=false)(ha:d.bA=0)(hk:k<n)(s:List UInt8):(d.aG n k s).2=0/\(d.aG n k s).1.down=false/\(d.aG n k s).1.bA=0:=by
 have h0:d.jm n k=0:=by rw[DH d n k hk];simp[hd]
 unfold D.aG;rw[if_pos h0];have h1:(d.dv (k:Int).toNat s).bA=0:=((yq d _).1).trans ha;have h2:(d.dv (k:Int).toNat s).down=false:=((yq d _).2).trans hd;obtain⟨c1,c2,c3⟩:=vQ _ h1;exact⟨c1,c3.trans h2,c2⟩
theorem Lu{d:D}{n k:Nat}(b:List UInt8)(hd:d.down=false)(ha:d.bA=0):∀i,k+i<=n->(w4 d n k b i).2=0/\(w4 d n k b i).1.down=false/\(w4 d n k b i).1.bA=0
 |0,_=>⟨rfl,hd,ha⟩
 |i+1,hi=>by
  obtain⟨h1,h2,h3⟩:=Lu (n:=n) (k:=k) b hd ha i (by omega);rw[QO d n k b i h1,show(k:Int)+(i:Int)=((k+i:Nat):Int) by omega];exact jn h2 h3 (by omega) _
theorem Bv(c:List UInt8)(h:c.length=64):j5 c=c:=by
 unfold j5;rw[h,eU,Dm,jh,bY (by omega)]
theorem uE(fy:d.Ok n)(k:Nat)(hk:k<n)(s:List UInt8)(he:(d.aG n k s).2=0)(j:Nat)(hj:j<n):sec (d.aG n k s).1.now j=if k=j then j5 s else sec d.now j:=by
 unfold D.aG at he ⊢
 by_cases h0:d.jm n k=0
 .rw[if_pos h0,Bu];show sec (fX d.now (k:Int).toNat (j5 s)) j=_;rw[show((k:Nat):Int).toNat=k from by omega];exact Ln fy.now hk (jQ s) hj
 .rw[if_neg h0]at he;exact absurd he h0
theorem I6(fy:d.Ok n)(b:List UInt8)(hb:b.length=256):∀i,i<=4->k+i<=n->(w4 d n k b i).2=0->∀j,j<n->sec (w4 d n k b i).1.now j=if k<=j/\j<k+i then(b.drop (64*(j-k))).take 64 else sec d.now j
 |0,_,_,_,j,_=>by rw[if_neg (by omega)];rfl
 |i+1,hi,AH,he,j,hj=>by
  have h1:(w4 d n k b i).2=0:=by
   by_cases h:(w4 d n k b i).2=0
   .exact h
   .rw[Lt d n k b i (i+1) h (by omega)]at he;exact absurd he h
  have ih:=I6 fy b hb i (by omega) (by omega) h1 j hj;rw[QO d n k b i h1]at he ⊢;rw[show(k:Int)+(i:Int)=((k+i:Nat):Int) by omega]at he ⊢;rw[uE (yo fy k b i) (k+i) (by omega) _ he j hj]
  by_cases QV:k+i=j
  .rw[if_pos QV,if_pos (by omega),Bv _ (by rw[bK,de];omega)]
   congr 3;omega
  .rw[if_neg QV,ih]
   by_cases hr:k<=j/\j<k+i
   .rw[if_pos hr,if_pos (by omega)]
   .rw[if_neg hr,if_neg (by omega)]
theorem lL(F:List UInt8)(k:Nat):(F.drop (64*k)).take 256=sec F k++sec F (k+1)++sec F (k+2)++sec F (k+3):=by
 have h0:=pI F k 0;have h1:=pI F k 1;have h2:=pI F k 2;have h3:=pI F k 3;simp only[xw,iM,cX,kE]at h0;rw[show(256:Nat)=64*(3+1)from rfl,h3,h2,h1,h0]
theorem chunks(b:List UInt8)(hb:b.length=256):(b.drop (64*0)).take 64++(b.drop (64*1)).take 64++(b.drop (64*2)).take 64++(b.drop (64*3)).take 64=b:=by
 have:=lL b 0;rw[xw,xX,bY (by omega)]at this;exact this.symm
theorem DJ(fy:d.Ok n)(id:Nat)(b:List UInt8)(hb:b.length=256)(hid:id<cq n)(he:(w4 d n (2+4*id) b 4).2=0):
  ((w4 d n (2+4*id) b 4).1.now.drop (64*(2+4*id))).take 256=b:=by
 have hk:2+4*id+3<n:=by unfold cq at hid;omega
 have hw:=I6 fy b hb 4 (by omega) (by omega) he;rw[lL,hw _ (by omega),hw _ (by omega),hw _ (by omega),hw _ (by omega),if_pos (by omega),if_pos (by omega),if_pos (by omega),if_pos (by omega)];have:=chunks b hb;rw[show 2+4*id-(2+4*id)=0 by omega,show 2+4*id+1-(2+4*id)=1 by omega,show 2+4*id+2-(2+4*id)=2 by omega,show 2+4*id+3-(2+4*id)=3 by omega];exact this
theorem DK(fy:d.Ok n)(id jd:Nat)(b:List UInt8)(hb:b.length=256)(hid:id<cq n)(hjd:jd<cq n)(eV:id≠jd)(he:(w4 d n (2+4*id) b 4).2=0):
  ((w4 d n (2+4*id) b 4).1.now.drop (64*(2+4*jd))).take 256=(d.now.drop (64*(2+4*jd))).take 256:=by
 have hk:2+4*id+3<n:=by unfold cq at hid;omega
 have hk2:2+4*jd+3<n:=by unfold cq at hjd;omega
 have hw:=I6 fy b hb 4 (by omega) (by omega) he;rw[lL,hw _ (by omega),hw _ (by omega),hw _ (by omega),hw _ (by omega),lL,if_neg (by omega),if_neg (by omega),if_neg (by omega),if_neg (by omega)]
theorem yr{id:Nat}{b:List UInt8}(hid:id<cq n)(hd:d.down=false)(hb:(d.now.drop (64*(2+4*id))).take 256=b):
  bR d n id=if(jl b).2≠0 then(.zero,(jl b).2)else if(jl b).1.id≠(id:Int)then(.zero,14)else((jl b).1,0):=by
 unfold bR;rw[if_neg (by omega),if_neg (by simp[hd]),show((id:Nat):Int).toNat=id from by omega,hb]
theorem oA(fy:d.Ok n)(hd:d.down=false)(ha:d.bA=0)(id:Nat)(ep kd:Int)(s:List UInt8)(hid:id<cq n)(hp:IV id ep kd=true)(hs:s.length<=232):
  (bo d n id ep kd s).2=0/\(bo d n id ep kd s).1.down=false/\(bo d n id ep kd s).1.bA=0/\bR (bo d n id ep kd s).1 n id=(⟨id,ep,kd,eI s 232⟩,0)/\
   ∀jd,jd<cq n->jd≠id->bR (bo d n id ep kd s).1 n jd=bR d n jd:=by
 have rX:dv id ep kd s=(j0 id ep kd s,0):=by unfold dv;rw[if_pos hp,if_neg (by omega)]
 have hlen:=(yp (by rw[rX])).1;rw[rX]at hlen;have hw:bo d n id ep kd s=w4 d n (2+4*id) (j0 id ep kd s) 4:=by
  unfold bo;rw[rX,if_neg (by simp),if_neg (by omega)];rfl
 have hk:2+4*id+4<=n:=by unfold cq at hid;omega
 have hid2:((id:Nat):Int)<=9223372036854775807:=by have:=fy.small;unfold cq at hid;omega
 obtain⟨f1,f2,f3⟩:=Lu (k:=2+4*id) (j0 id ep kd s) hd ha 4 hk;rw[hw];refine⟨f1,f2,f3,?_,λjd hjd eV=>?_⟩
 .rw[yr hid f2 (DJ fy id _ hlen hid f1),Nc hp hid2 hs];simp
 .rw[yr hjd f2 rfl,yr hjd hd rfl,DK fy id jd _ hlen hid hjd (Ne.symm eV) f1]
end Pg
namespace Fm
open Go.RowKit
def ints(l:List Int):List Value:=l.map (Value.int .i64)
@[simp] theorem ints_length(l:List Int):(ints l).length=l.length:=by simp[ints]
theorem QW(l:List Int)(k:Nat)(h:k<l.length):(ints l)[k]?=some (.int .i64 l[k]):=by simp[ints,h]
theorem ints_set(l:List Int)(k:Nat)(x:Int):(ints l).set k (.int .i64 x)=ints (l.set k x):=by simp[ints]
def DL(l:List Int)(i:Int):Bool:=decide (0<=i/\i<l.length)
def eD(l:List Int)(i:Int):List Int×Int:=
 if DL l i then(if l.getD i.toNat 0=2 then(l.set i.toNat 0,0)else if l.getD i.toNat 0=1 then(l.set i.toNat 3,0)else(l,9))else(l,3)
def dP(l:List Int)(k:Int):Nat:=l.findIdx (· ==k)
def du(l:List Int):List Int×Int×Int:=
 if dP l 0<l.length then(l.set (dP l 0) 2,dP l 0,0)else(l,0,11)
def rY(l:List Int)(k:Int):Nat->List Int
 |0=>[]
 |n+1=>rY l k n++if l.getD n 0=k then [(n:Int)]else []
def oW(l:List Int)(k:Int):List Int:=rY l k l.length
variable{w:World}{b g:Nat}{l:List Int}
theorem QX:(prog.info? 3).map (λi=>(i.zero,i.size,i.bytes))=some (some (.int .i64 0),1,8):=by kernel_rfl
structure eX(w:World)(b g:Nat)(l:List Int):Prop where
 hb:aE w b 218 #[.slice (some ⟨g,0,none⟩) l.length l.length]
 hg:aE w g 3 (ints l).toArray
 hl:l.length<=1024
def mp(b:Nat):Value:= .pointer (some ⟨b,0,none⟩)
section
variable{w w':World}{b g:Nat}{l:List Int}{S:List Nat}
theorem eX.ne(h:eX w b g l):b≠g:=h.hb.lI h.hg (by decide)
theorem eX.c0(h:eX w b g l):w.cell? ⟨b,0,none⟩=some (.slice (some ⟨g,0,none⟩) l.length l.length):=h.hb.ab rfl
theorem eX.ck(h:eX w b g l)(k:Nat)(hk:k<l.length):w.cell? ⟨g,k,none⟩=some (.int .i64 (l.getD k 0)):=by
 refine h.hg.ab ?_;rw[cM,QW _ _ hk];simp[List.getD,aT hk]
theorem eX.fk(h:eX w b g l)(k:Nat)(hk:k<l.length):w.frozen? ⟨g,k,none⟩=false:=h.hg.frozen k (by simpa using hk)
theorem eX.only(h:eX w b g l)(ho:ag S w w')(h1:b∉S)(h2:g∉S):eX w' b g l:=⟨h.hb.only ho h1,h.hg.only ho h2,h.hl⟩
theorem eX.below(h:eX w b g l)(hb:Below w.heap.size w w'):eX w' b g l:=h.only (S:=[]) (.ai hb) (by simp) (by simp)
theorem eX.drew(h:eX w b g l):eX w.drew b g l:=⟨h.hb,h.hg,h.hl⟩
theorem eX.bG(h:eX w b g l)(k:Nat)(x:Int):eX (w.setCell ⟨g,k,none⟩ (.int .i64 x)) b g (l.set k x):=by
 refine⟨?_,?_,by simpa using h.hl⟩
 .rw[bU];exact h.hb.aU (by exact h.ne) _
 .have:=h.hg.bG k (.int .i64 x);rw[qx,ints_set]at this;exact this
end
theorem DF(n:Nat)(w:World)(h:n<=1024):
  Calls prog 81 #[.int .i64 n] w λe w'=> ∃b g,e=.returned (.tuple #[mp b,.int .i64 0])/\eX w' b g (List.replicate n 0)/\Below w.heap.size w w'/\w.heap.size<=b/\w.heap.size<=g:=by
 have hmk:∀w':World,(Instr.makeSlice 60 (.int .i64 n) (.int .i64 n)).run prog w'= .ok (.slice (some ⟨w'.heap.size,0,none⟩) n n) (w'.alloc (.cells (madeCells #[.int .i64 0] n) 3)):=λw'=>by
  obtain⟨i0,hi,ke,iX,jF⟩:=info_parts QX;have h:=run_make (P:=prog) w' 60 3 i0 (.int .i64 0) underlying60 hi ke .i64 .i64 n n (by omega) (jK _) (by rw[jF];omega) (by omega);simpa [iX,Value.cells]using h
 go_enter func81,ntmps81
 go_wp2
 go_ret2;refine⟨w.heap.size+1,w.heap.size,rfl,⟨?_,?_,by simpa using h⟩,((Below.refl _ _).alloc (aj _) _).alloc (by simp) _,by omega,by omega⟩
 .have:=aE.new (w.alloc (.cells (madeCells #[.int .i64 0] n) 3)) 218 #[.slice (some ⟨w.heap.size,0,none⟩) n n];simpa using this
 .have:=(aE.new w 3 (madeCells #[.int .i64 0] n)).alloc (.cells #[.slice (some ⟨w.heap.size,0,none⟩) n n] 218);rw[gM]at this;rw[gM];simpa [ints]using this
theorem Lv(m:eX w b g l)(i:Int)(h:DL l i=true):
  Calls prog 183 #[mp b,.int .i64 i] w λe w'=>e=.returned (.int .i64 0)/\w=w':=by
 simp only[DL,decide_eq_true_eq]at h;obtain⟨h0,h1⟩:=h;have hl:=m.hl;have c0:=m.c0;unfold mp;go_enter func183,ntmps183
 go_wp2
 go_ret;exact⟨rfl,rfl⟩
theorem at_no(m:eX w b g l)(i:Int)(h:DL l i=false):
  Calls prog 183 #[mp b,.int .i64 i] w λe w'=>e=.returned (.int .i64 3)/\w=w':=by
 simp only[DL,decide_eq_false_iff_not]at h;have h':i<0\/(¬i<0/\(l.length:Int)<=i):=by omega
 clear h;have hl:=m.hl;have c0:=m.c0;unfold mp
 rcases h' with h|⟨h,h1⟩
 all_goals
  go_enter func183,ntmps183
  go_wp2
  go_ret;exact⟨rfl,rfl⟩
variable{w:World}{b g:Nat}{l:List Int}
theorem uF(m:eX w b g l)(i:Int):
  Calls prog 153 #[mp b,.int .i64 i] w λe w'=>e=.returned (.int .i64 (eD l i).2)/\eX w' b g (eD l i).1/\ag [g] w w':=by
 by_cases sN:DL l i=true
 .have yt:=sN;simp only[DL,decide_eq_true_eq]at yt;obtain⟨h0,h1⟩:=yt;obtain⟨k,rfl⟩:=dL h0;have hk:k<l.length:=by omega
  have c0:=m.c0;have ck:=m.ck k hk;have fk:=m.fk k hk
  by_cases hz:l.getD k 0=2
  .have hu:eD l k=(l.set k 0,0):=by simp only[eD,sN,if_true,gv,hz]
   rw[hu];rw[hz]at ck;have HU:=xh (m.bG k 0);clear hz hu;unfold mp;go_enter func153,ntmps153;go_wp2_with fail;refine(Lv m k sN).mono ?_;rintro e w1 ⟨rfl,rfl⟩;go_wp2_with fail;go_ret;exact⟨rfl,HU.o,(ag.refl _ _).setCell (by simp) _⟩
  .by_cases iX:l.getD k 0=1
   .have hu:eD l k=(l.set k 3,0):=by simp only[eD,sN,if_true,gv,iX];rfl
    rw[hu];rw[iX]at ck;have HU:=xh (m.bG k 3);clear hz iX hu;unfold mp;go_enter func153,ntmps153;go_wp2_with fail;refine(Lv m k sN).mono ?_;rintro e w1 ⟨rfl,rfl⟩;go_wp2_with fail;go_ret;exact⟨rfl,HU.o,(ag.refl _ _).setCell (by simp) _⟩
   .have hu:eD l k=(l,9):=by simp only[eD,sN,if_true,gv,if_neg hz,if_neg iX]
    rw[hu];clear hu fk;generalize l.getD k 0=x at ck hz iX;unfold mp;go_enter func153,ntmps153;go_wp2_with fail;refine(Lv m k sN).mono ?_;rintro e w1 ⟨rfl,rfl⟩;go_wp2_with fail;go_ret;exact⟨rfl,m,ag.refl _ _⟩
 .have yt:DL l i=false:=by simpa using sN
  have hu:eD l i=(l,3):=by simp only[eD,yt];rfl
  rw[hu];clear hu;unfold mp;go_enter func153,ntmps153;go_wp2_with fail;refine(at_no m i yt).mono ?_;rintro e w1 ⟨rfl,rfl⟩;go_wp2_with fail;go_ret;exact⟨rfl,m,ag.refl _ _⟩
theorem Fx(l:List Int)(k:Int)(n:Nat)(hn:n<=l.length)(h:∀j,j<n->l.getD j 0≠k):n<=dP l k:=by
 rcases eT (dP l k) n with dV|Li
 .have h1:l.findIdx (· ==k)<l.length:=by unfold dP at dV;omega
  have h2:=rQ (w:=h1);have h3:=h _ dV;unfold dP at h3;simp only[List.getD,aT h1,n8]at h3;exact absurd (by simpa using h2) h3
 .exact Li
theorem QY(l:List Int)(k:Int)(n:Nat)(hn:n<l.length)(h:∀j,j<n->l.getD j 0≠k)(hk:l.getD n 0=k):dP l k=n:=by
 have h1:=Fx l k n (by omega) h;have h2:dP l k<=n:=by
  unfold dP;have hg:l[n]=k:=by simpa [List.getD,aT hn]using hk
  rcases eT n (l.findIdx (· ==k))with dV|Li
  .have:=Dh dV;simp[hg]at this
  .exact Li
 omega
theorem I8(l:List Int)(k:Int)(h:∀j,j<l.length->l.getD j 0≠k):dP l k=l.length:=by
 have:=Fx l k l.length (aj _) h;have h2:dP l k<=l.length:=nX;omega
def kh(l:List Int)(k:Int):Int:=if dP l k<l.length then(dP l k:Int)else -1
theorem qJ(g n c:Nat)(l:List Int)(hn:n=l.length)(hm:n<=1000000)(k:Int)(w:World)(hc:∀j,j<l.length->w.cell? ⟨g,j,none⟩=some (.int .i64 (l.getD j 0))):
  Calls prog 165 #[.slice (some ⟨g,0,none⟩) n c,.int .i64 k] w λe w'=>e=.returned (.int .i64 (kh l k))/\w=w':=by
 subst hn;go_enter func165,ntmps165
 go_wp2
 go_loop [5,8] (λ_ i=> ∃j:Nat,j<=l.length/\i=.int .i64 j/\Hid (∀x,x<j->l.getD x 0≠k)) (λ_ i=>l.length-(intOf i).toNat)
 case atStart=>exact⟨0,by omega,rfl,xh (by omega)⟩
 case round=>
  obtain⟨j,hj,rfl,H⟩:=hrel
  by_cases h:j<l.length
  .have cj:=hc j h;clear hc
   by_cases hk:l.getD j 0=k
   .have he:kh l k=j:=by unfold kh;rw[QY l k j h H.o hk,if_pos h]
    have HE:=xh he;clear he;rw[hk]at cj;clear hk
    go_wp2
    go_ret;exact⟨by rw[HE.o];rfl,rfl⟩
   .have H2:=xh (show ∀x,x<j+1->l.getD x 0≠k from λx hx=>by
     rcases eT x j with h1|h1
     .exact H.o x h1
     .have:x=j:=by omega
      subst this;exact hk)
    have hk':(k==l.getD j 0)=false:=by simp;exact λe=>hk e.symm
    clear hk;generalize l.getD j 0=y at *
    go_wp2
    go_round
    case rel=>exact⟨j+1,by omega,by go_num,H2⟩
    case measure=>simp[intOf];omega
  .have hjl:j=l.length:=by omega
   have he:kh l k= -1:=by
    unfold kh;rw[I8 l k (by rw[<-hjl];exact H.o),if_neg (by omega)]
   have HE:=xh he;clear he hjl hc
   go_wp2
   go_ret;exact⟨by rw[HE.o];rfl,rfl⟩
theorem Bw(m:eX w b g l)(k:Int):
  Calls prog 195 #[mp b,.int .i64 k] w λe w'=>e=.returned (.int .i64 (kh l k))/\w=w':=by
 have hl:=m.hl;have c0:=m.c0;have HC:=xh m.ck;unfold mp;go_enter func195,ntmps195;go_wp2_with fail;refine(qJ g _ _ l rfl (by omega) k _ HC.o).mono ?_;rintro e w1 ⟨rfl,rfl⟩;go_wp2_with fail;go_ret;exact⟨rfl,rfl⟩
theorem yi(m:eX w b g l):
  Calls prog 151 #[mp b] w λe w'=>e=.returned (.tuple #[.int .i64 (du l).2.1,.int .i64 (du l).2.2])/\eX w' b g (du l).1/\ag [g] w w':=by
 have hl:=m.hl;have c0:=m.c0
 by_cases h:dP l 0<l.length
 .have hu:du l=(l.set (dP l 0) 2,(dP l 0:Int),0):=by rw[du,if_pos h]
  have hi:kh l 0=dP l 0:=by rw[kh,if_pos h]
  rw[hu];have K:=xh (hi▸Bw m 0);have ck:=m.ck _ h;have fk:=m.fk _ h;have HU:=xh (m.bG (dP l 0) 2);clear hu hi;generalize dP l 0=k at *;unfold mp at *;go_enter func151,ntmps151;go_wp2_with fail;refine(K.o).mono ?_;rintro e w1 ⟨rfl,rfl⟩;go_wp2_with fail;go_ret2;exact⟨rfl,HU.o,(ag.refl _ _).setCell (by simp) _⟩
 .have hu:du l=(l,0,11):=by rw[du,if_neg h]
  have hi:kh l 0= -1:=by rw[kh,if_neg h]
  rw[hu];have K:=xh (hi▸Bw m 0);clear hu hi h;unfold mp at *;go_enter func151,ntmps151;go_wp2_with fail;refine(K.o).mono ?_;rintro e w1 ⟨rfl,rfl⟩;go_wp2_with fail;go_ret2;exact⟨rfl,m,ag.refl _ _⟩
def bW(l:List Int)(i:Int):Bool:=DL l i && (l.getD i.toNat 0==2)
theorem qK{w:World}{b g:Nat}{l:List Int}(m:eX w b g l)(i:Int):
  Calls prog 192 #[mp b,.int .i64 i] w λe w'=>e=.returned (.bool (bW l i))/\w=w':=by
 by_cases sN:DL l i=true
 .have yt:=sN;simp only[DL,decide_eq_true_eq]at yt;obtain⟨h0,h1⟩:=yt;obtain⟨k,rfl⟩:=dL h0;have hk:k<l.length:=by omega
  have c0:=m.c0;have ck:=m.ck k hk;have HF:=xh (show bW l k=(l.getD k 0==2) by simp only[bW,sN,Ik,gv]);generalize l.getD k 0=x at ck HF;unfold mp;go_enter func192,ntmps192;go_wp2_with fail;refine(Lv m k sN).mono ?_;rintro e w1 ⟨rfl,rfl⟩;go_wp2_with fail;go_ret;exact⟨by rw[HF.o];rfl,rfl⟩
 .have yt:DL l i=false:=by simpa using sN
  have HF:=xh (show bW l i=false by simp only[bW,yt,Bool.false_and]);unfold mp;go_enter func192,ntmps192;go_wp2_with fail;refine(at_no m i yt).mono ?_;rintro e w1 ⟨rfl,rfl⟩;go_wp2_with fail;go_ret;exact⟨by rw[HF.o];rfl,rfl⟩
end Fm
namespace Rt
open Go.RowKit Pk
attribute [local go_sem ↓] Go.wp_at_zero Go.wp_at_succ
variable{w:World}{A:Option Addr}{n:Nat}{l:List Int}
theorem ae{W w1:World}(h:Below W.heap.size W w1)(o:Obj):Below W.heap.size W (w1.alloc o):=h.alloc h.size o
theorem bool_of(p:Prop):∃b:Bool,b=true↔p:=by
 by_cases h:p
 .exact⟨true,by simp[h]⟩
 .exact⟨false,by simp[h]⟩
def jR(w:World)(A:Option Addr)(n:Nat)(l:List Int):Prop:=l.length=n/\∀k x,l[k]?=some x->∃ad,A=some ad/\w.cell? (ad.add k)=some (.int .i64 x)
theorem jR.below{w':World}(h:jR w A n l)(hb:Below w.heap.size w w'):jR w' A n l:=by
 refine⟨h.1,λk x hx=>?_⟩;obtain⟨ad,e1,h1⟩:=h.2 k x hx;exact⟨ad,e1,(hb.cell (by rw[lz];exact Lj h1)).trans h1⟩
theorem jR.at(h:jR w A n l)(k:Nat)(hk:k<n):∃ad x,A=some ad/\l[k]?=some x/\w.cell? (ad.add k)=some (.int .i64 x):=by
 have hl:=h.1;obtain⟨ad,e1,h1⟩:=h.2 k l[k] (aT (by omega));exact⟨ad,l[k],e1,aT (by omega),h1⟩
theorem jR.take(h:jR w A n l)(k:Nat)(hk:k<=n):jR w A k (l.take k):=by
 refine⟨by rw[bK];have:=h.1;omega,λj x hx=>?_⟩;rw[ya]at hx
 split at hx
 .exact h.2 j x hx
 .cases hx
def vR(n:Int):Int:=(max n 0+115) / 116
def Fy(a b:Int)(A:Option Addr)(n c:Nat):Value:= .agg #[.int .i64 a,.int .i64 b,.slice A n c]
def k8(ep lg:Int)(l:List Int):Prop:=1<=ep/\ep<=1099511627776/\0<=lg/\lg<=512/\(l.length:Int)=vR lg/\∀i x,l[i]?=some x->0<=x/\x<=1023/\x∉l.take i
theorem QZ(n:Int)(h:n<=1000000)(w:World):
  Calls prog 149 #[.int .i64 n] w λe w'=>e=.returned (.int .i64 (vR n))/\Below w.heap.size w w':=by
 unfold vR;obtain⟨m,hm⟩:=dL (show 0<=max n 0 by omega);rw[hm];have Ig:m<=1000000:=by omega
 have e1:IntKind.i64.wrap ((m:Int)+116)=(m:Int)+116:=IntWalk.i64_in _ (by omega);have e2:IntKind.i64.wrap ((m:Int)+116-1)=(m:Int)+115:=by rw[show(m:Int)+116-1=(m:Int)+115 by omega];exact IntWalk.i64_in _ (by omega)
 have e3:IntKind.i64.wrap (((m:Int)+115).tdiv 116)=((m:Int)+115) / 116:=by rw[Im (by omega)];exact IntWalk.i64_in _ (by omega)
 have e4:IntKind.i64.wrap ((m:Int)+115)=(m:Int)+115:=IntWalk.i64_in _ (by omega);go_enter func149,ntmps149;go_wp2_with fail
 all_goals
  go_ret;refine⟨?_,Below.refl _ _⟩
  first|(simp;done)|(simp;omega)
theorem qJ(A:Option Addr)(n c:Nat)(l:List Int)(x:Int)(h:jR w A n l)(hn:n<=1000000):
  Calls prog 165 #[.slice A n c,.int .i64 x] w λe w'=>(∃k:Int,e=.returned (.int .i64 k)/\(0<=k↔x∈l))/\w'=w:=by
 have H0:=xh h;go_enter func165,ntmps165;go_wp2_with fail
 go_loopw [8] (λiv wr=> ∃i:Nat,i<=n/\iv=.int .i64 i/\Hid (∀j y,j<i->l[j]?=some y->y≠x)/\wr=w) (λiv _=>n-(intOf iv).toNat)
 case atStart=>exact⟨0,bm _,rfl,xh (λj y h=>absurd h (kF _)),rfl⟩
 case round=>
  obtain⟨i,hi,rfl,HX,rfl⟩:=hrel
  by_cases h':i<n
  .obtain⟨ad,y,rfl,hy,ck⟩:=H0.o.at i h';have hiI:(i:Int)<(n:Int):=by omega
   have HY:=xh hy;clear hy h
   by_cases PV:x=y
   .subst PV;go_wp2_with fail;go_ret;refine⟨⟨(i:Int),rfl,?_⟩,rfl⟩;exact⟨λ_=>aA HY.o,λ_=>by omega⟩
   .have hxy2:(x==y)=false:=by simpa using PV
    have HX2:=xh (show ∀j z,j<i+1->l[j]?=some z->z≠x from λj z hj hz=>by
     rcases nZ.1 hj with h1|rfl
     .exact HX.o j z h1 hz
     .rw[HY.o]at hz;injection hz with hz;subst hz;exact λe=>PV e.symm)
    go_wp2_with fail;go_roundw
    case rel=>exact⟨i+1,by omega,by go_num,HX2,by first|rfl|trivial⟩
    case measure=>simp[intOf];omega
  .obtain rfl:i=n:=by omega
   clear h;go_wp2_with fail;go_ret;refine⟨⟨-1,rfl,?_⟩,rfl⟩
   constructor
   .intro h1;omega
   .intro hm;exfalso;obtain⟨j,hj,hjx⟩:=pB hm;exact HX.o j _ (by have:=H0.o.1;omega) (aT hj) hjx
theorem DM(A:Option Addr)(n c:Nat)(l:List Int)(x:Int)(h:jR w A n l)(hn:n<=1000000)(b:Bool)(hb:b=true↔x∈l):
  Calls prog 201 #[.slice A n c,.int .i64 x] w λe w'=>e=.returned (.bool b)/\w'=w:=by
 have K:=xh (qJ A n c l x h hn);have HB:=xh hb;clear h hb;go_enter func201,ntmps201;go_wp2_with fail;refine K.o.mono ?_;rintro e w1 ⟨⟨k,rfl,hk⟩,rfl⟩;have HK:=xh hk;clear hk
 by_cases h0:0<=k
 .have h1:¬k<0:=by omega
  go_wp2_with fail;go_ret;refine⟨?_,rfl⟩;rw[HB.o.2 (HK.o.1 h0)];first|rfl|simp
 .have h1:k<0:=by omega
  go_wp2_with fail;go_ret;refine⟨?_,rfl⟩
  cases b
  .first|rfl|(simp;omega)
  .exact absurd (HK.o.2 (HB.o.1 rfl)) (by omega)
theorem I9{ep lg:Int}{l:List Int}(h:k8 ep lg l):l.length<=5:=by
 have:=h.2.2.2.2.1;unfold vR at this;have:=h.2.2.2.1;omega
theorem uG{w:World}(ep lg:Int)(A:Option Addr)(n c:Nat)(l:List Int)(h:jR w A n l)(hn:n<=1000000)(Ic:n<=c)(b:Bool)(hb:b=true↔k8 ep lg l):
  Calls prog 156 #[Fy ep lg A n c] w λe w'=>e=.returned (.bool b)/\Below w.heap.size w w':=by
 have O0:=ae (Below.refl w.heap.size w) (.cells #[.int .i64 ep,.int .i64 lg,.slice A n c] 155);have B0:=xh (aE.new w 155 #[.int .i64 ep,.int .i64 lg,.slice A n c]);have H0:=xh (h.below O0);have HB:=xh hb;have HL:=xh h.1;have O0:=xh O0;clear h hb;unfold Fy
 have Bs:(ep<1)\/(¬ep<1/\1099511627776<ep)\/(¬ep<1/\¬1099511627776<ep/\lg<0)\/(¬ep<1/\¬1099511627776<ep/\¬lg<0/\512<lg)\/(¬ep<1/\¬1099511627776<ep/\¬lg<0/\¬512<lg/\(n:Int)≠vR lg)\/(¬ep<1/\¬1099511627776<ep/\¬lg<0/\¬512<lg/\(n:Int)=vR lg):=by omega
 have KN:=xh (λ(hl:lg<=512) w=>QZ lg (by omega) w)
 rcases Bs with h1|⟨h1,h2⟩|⟨h1,h2,h3⟩|⟨h1,h2,h3,h4⟩|⟨h1,h2,h3,h4,h5⟩|⟨h1,h2,h3,h4,h5⟩
 .go_enter func156,ntmps156;go_wp2_with fail;generalize hW:(w.alloc (.cells #[.int .i64 ep,.int .i64 lg,.slice A n c] 155))=W at *;clear hW
  have HK:=xh (show ∀W',Below W.heap.size W W'->(W'.cell? ⟨w.heap.size,0,none⟩=some (.int .i64 ep)/\W'.cell? ⟨w.heap.size,1,none⟩=some (.int .i64 lg)/\W'.cell? ⟨w.heap.size,2,none⟩=some (.slice A n c))from λW' ho=>⟨(B0.o.below ho B0.o.lt).ab (i:=0) rfl,(B0.o.below ho B0.o.lt).ab (i:=1) rfl,(B0.o.below ho B0.o.lt).ab (i:=2) rfl⟩);have OD:=xh ((Below.refl W.heap.size W).drew)
  refine wp_region_held_drew (S:=λW'=>W'.cell? ⟨w.heap.size,0,none⟩=some (.int .i64 ep)/\W'.cell? ⟨w.heap.size,1,none⟩=some (.int .i64 lg)/\W'.cell? ⟨w.heap.size,2,none⟩=some (.slice A n c)) (by kernel_rfl) (HK.o _ OD.o) (λaq=>?_);refine cV [(0,5),(1,6)] ?_
  iterate 2 refine bj ?_
  refine mX 2 7 (.bool true) ?_ ?_
  ·(intro w nr;(try dsimp only at nr);go_simp;(try omega))
  refine cV [(3,8)] ?_
  iterate 1 refine bj ?_
  refine cm 4 9 ?_;refine cm 5 10 ?_;refine cm 6 11 ?_;refine cV [(7,12),(8,13)] ?_
  iterate 2 refine bj ?_
  refine cm 9 14 ?_;refine cm 10 15 ?_;refine cm 11 16 ?_;refine cV [(12,17),(13,18)] ?_
  iterate 2 refine bj ?_
  refine cm 14 19 ?_;refine cm 15 20 ?_;refine cm 16 21 ?_;refine cV [(17,22),(18,23)] ?_
  iterate 2 refine bj ?_
  refine cm 19 24 ?_;refine cm 20 25 ?_;refine cm 21 26 ?_;refine cm 22 27 ?_;refine cm 23 28 ?_;refine cm 24 29 ?_;refine cm 25 30 ?_;refine cV [(26,31)] ?_
  iterate 1 refine bj ?_
  refine wpAnyH_done (by kernel_rfl) ?_ _;have PP:=xh (au O0.o OD.o);go_wp2_with fail;go_ret;refine⟨?_,PP.o⟩
  cases b
  .first|rfl|simp
  .exfalso;have hr:=HB.o.1 rfl;have hl:=HL.o;unfold k8 at hr;omega
 .go_enter func156,ntmps156;go_wp2_with fail;generalize hW:(w.alloc (.cells #[.int .i64 ep,.int .i64 lg,.slice A n c] 155))=W at *;clear hW
  have HK:=xh (show ∀W',Below W.heap.size W W'->(W'.cell? ⟨w.heap.size,0,none⟩=some (.int .i64 ep)/\W'.cell? ⟨w.heap.size,1,none⟩=some (.int .i64 lg)/\W'.cell? ⟨w.heap.size,2,none⟩=some (.slice A n c))from λW' ho=>⟨(B0.o.below ho B0.o.lt).ab (i:=0) rfl,(B0.o.below ho B0.o.lt).ab (i:=1) rfl,(B0.o.below ho B0.o.lt).ab (i:=2) rfl⟩);have OD:=xh ((Below.refl W.heap.size W).drew)
  refine wp_region_held_drew (S:=λW'=>W'.cell? ⟨w.heap.size,0,none⟩=some (.int .i64 ep)/\W'.cell? ⟨w.heap.size,1,none⟩=some (.int .i64 lg)/\W'.cell? ⟨w.heap.size,2,none⟩=some (.slice A n c)) (by kernel_rfl) (HK.o _ OD.o) (λaq=>?_);refine cV [(0,5),(1,6)] ?_
  iterate 2 refine bj ?_
  refine mX 2 7 (.bool false) ?_ ?_
  ·(intro w nr;(try dsimp only at nr);go_simp;(try omega))
  refine cV [(3,8),(4,9),(5,10)] ?_
  iterate 3 refine bj ?_
  refine mX 6 11 (.bool true) ?_ ?_
  ·(intro w nr;(try dsimp only at nr);go_simp;(try omega))
  refine cV [(7,12),(8,13)] ?_
  iterate 2 refine bj ?_
  refine cm 9 14 ?_;refine cm 10 15 ?_;refine cm 11 16 ?_;refine cV [(12,17),(13,18)] ?_
  iterate 2 refine bj ?_
  refine cm 14 19 ?_;refine cm 15 20 ?_;refine cm 16 21 ?_;refine cV [(17,22),(18,23)] ?_
  iterate 2 refine bj ?_
  refine cm 19 24 ?_;refine cm 20 25 ?_;refine cm 21 26 ?_;refine cm 22 27 ?_;refine cm 23 28 ?_;refine cm 24 29 ?_;refine cm 25 30 ?_;refine cV [(26,31)] ?_
  iterate 1 refine bj ?_
  refine wpAnyH_done (by kernel_rfl) ?_ _;have PP:=xh (au O0.o OD.o);go_wp2_with fail;go_ret;refine⟨?_,PP.o⟩
  cases b
  .first|rfl|simp
  .exfalso;have hr:=HB.o.1 rfl;have hl:=HL.o;unfold k8 at hr;omega
 .go_enter func156,ntmps156;go_wp2_with fail;generalize hW:(w.alloc (.cells #[.int .i64 ep,.int .i64 lg,.slice A n c] 155))=W at *;clear hW
  have HK:=xh (show ∀W',Below W.heap.size W W'->(W'.cell? ⟨w.heap.size,0,none⟩=some (.int .i64 ep)/\W'.cell? ⟨w.heap.size,1,none⟩=some (.int .i64 lg)/\W'.cell? ⟨w.heap.size,2,none⟩=some (.slice A n c))from λW' ho=>⟨(B0.o.below ho B0.o.lt).ab (i:=0) rfl,(B0.o.below ho B0.o.lt).ab (i:=1) rfl,(B0.o.below ho B0.o.lt).ab (i:=2) rfl⟩);have OD:=xh ((Below.refl W.heap.size W).drew)
  refine wp_region_held_drew (S:=λW'=>W'.cell? ⟨w.heap.size,0,none⟩=some (.int .i64 ep)/\W'.cell? ⟨w.heap.size,1,none⟩=some (.int .i64 lg)/\W'.cell? ⟨w.heap.size,2,none⟩=some (.slice A n c)) (by kernel_rfl) (HK.o _ OD.o) (λaq=>?_);refine cV [(0,5),(1,6)] ?_
  iterate 2 refine bj ?_
  refine mX 2 7 (.bool false) ?_ ?_
  ·(intro w nr;(try dsimp only at nr);go_simp;(try omega))
  refine cV [(3,8),(4,9),(5,10)] ?_
  iterate 3 refine bj ?_
  refine mX 6 11 (.bool false) ?_ ?_
  ·(intro w nr;(try dsimp only at nr);go_simp;(try omega))
  refine cV [(7,12),(8,13),(9,14),(10,15)] ?_
  iterate 4 refine bj ?_
  refine mX 11 16 (.bool true) ?_ ?_
  ·(intro w nr;(try dsimp only at nr);go_simp;(try omega))
  refine cV [(12,17),(13,18)] ?_
  iterate 2 refine bj ?_
  refine cm 14 19 ?_;refine cm 15 20 ?_;refine cm 16 21 ?_;refine cV [(17,22),(18,23)] ?_
  iterate 2 refine bj ?_
  refine cm 19 24 ?_;refine cm 20 25 ?_;refine cm 21 26 ?_;refine cm 22 27 ?_;refine cm 23 28 ?_;refine cm 24 29 ?_;refine cm 25 30 ?_;refine cV [(26,31)] ?_
  iterate 1 refine bj ?_
  refine wpAnyH_done (by kernel_rfl) ?_ _;have PP:=xh (au O0.o OD.o);go_wp2_with fail;go_ret;refine⟨?_,PP.o⟩
  cases b
  .first|rfl|simp
  .exfalso;have hr:=HB.o.1 rfl;have hl:=HL.o;unfold k8 at hr;omega
 .go_enter func156,ntmps156;go_wp2_with fail;generalize hW:(w.alloc (.cells #[.int .i64 ep,.int .i64 lg,.slice A n c] 155))=W at *;clear hW
  have HK:=xh (show ∀W',Below W.heap.size W W'->(W'.cell? ⟨w.heap.size,0,none⟩=some (.int .i64 ep)/\W'.cell? ⟨w.heap.size,1,none⟩=some (.int .i64 lg)/\W'.cell? ⟨w.heap.size,2,none⟩=some (.slice A n c))from λW' ho=>⟨(B0.o.below ho B0.o.lt).ab (i:=0) rfl,(B0.o.below ho B0.o.lt).ab (i:=1) rfl,(B0.o.below ho B0.o.lt).ab (i:=2) rfl⟩);have OD:=xh ((Below.refl W.heap.size W).drew)
  refine wp_region_held_drew (S:=λW'=>W'.cell? ⟨w.heap.size,0,none⟩=some (.int .i64 ep)/\W'.cell? ⟨w.heap.size,1,none⟩=some (.int .i64 lg)/\W'.cell? ⟨w.heap.size,2,none⟩=some (.slice A n c)) (by kernel_rfl) (HK.o _ OD.o) (λaq=>?_);refine cV [(0,5),(1,6)] ?_
  iterate 2 refine bj ?_
  refine mX 2 7 (.bool false) ?_ ?_
  ·(intro w nr;(try dsimp only at nr);go_simp;(try omega))
  refine cV [(3,8),(4,9),(5,10)] ?_
  iterate 3 refine bj ?_
  refine mX 6 11 (.bool false) ?_ ?_
  ·(intro w nr;(try dsimp only at nr);go_simp;(try omega))
  refine cV [(7,12),(8,13),(9,14),(10,15)] ?_
  iterate 4 refine bj ?_
  refine mX 11 16 (.bool false) ?_ ?_
  ·(intro w nr;(try dsimp only at nr);go_simp;(try omega))
  refine cV [(12,17),(13,18),(14,19),(15,20)] ?_
  iterate 4 refine bj ?_
  refine mX 16 21 (.bool true) ?_ ?_
  ·(intro w nr;(try dsimp only at nr);go_simp;(try omega))
  refine cV [(17,22),(18,23)] ?_
  iterate 2 refine bj ?_
  refine cm 19 24 ?_;refine cm 20 25 ?_;refine cm 21 26 ?_;refine cm 22 27 ?_;refine cm 23 28 ?_;refine cm 24 29 ?_;refine cm 25 30 ?_;refine cV [(26,31)] ?_
  iterate 1 refine bj ?_
  refine wpAnyH_done (by kernel_rfl) ?_ _;have PP:=xh (au O0.o OD.o);go_wp2_with fail;go_ret;refine⟨?_,PP.o⟩
  cases b
  .first|rfl|simp
  .exfalso;have hr:=HB.o.1 rfl;have hl:=HL.o;unfold k8 at hr;omega
 .replace KN:=xh (KN.o (by omega))
  obtain⟨nd,AF⟩:∃nd,vR lg=nd:=⟨_,rfl⟩;have HND:=xh AF;rw[AF]at KN h5;clear AF;go_enter func156,ntmps156;go_wp2_with fail;generalize hW:(w.alloc (.cells #[.int .i64 ep,.int .i64 lg,.slice A n c] 155))=W at *;clear hW
  have HK:=xh (show ∀W',Below W.heap.size W W'->(W'.cell? ⟨w.heap.size,0,none⟩=some (.int .i64 ep)/\W'.cell? ⟨w.heap.size,1,none⟩=some (.int .i64 lg)/\W'.cell? ⟨w.heap.size,2,none⟩=some (.slice A n c))from λW' ho=>⟨(B0.o.below ho B0.o.lt).ab (i:=0) rfl,(B0.o.below ho B0.o.lt).ab (i:=1) rfl,(B0.o.below ho B0.o.lt).ab (i:=2) rfl⟩);have OD:=xh ((Below.refl W.heap.size W).drew)
  refine wp_region_held_drew (S:=λW'=>W'.cell? ⟨w.heap.size,0,none⟩=some (.int .i64 ep)/\W'.cell? ⟨w.heap.size,1,none⟩=some (.int .i64 lg)/\W'.cell? ⟨w.heap.size,2,none⟩=some (.slice A n c)) (by kernel_rfl) (HK.o _ OD.o) (λaq=>?_);refine cV [(0,5),(1,6)] ?_
  iterate 2 refine bj ?_
  refine mX 2 7 (.bool false) ?_ ?_
  ·(intro w nr;(try dsimp only at nr);go_simp;(try omega))
  refine cV [(3,8),(4,9),(5,10)] ?_
  iterate 3 refine bj ?_
  refine mX 6 11 (.bool false) ?_ ?_
  ·(intro w nr;(try dsimp only at nr);go_simp;(try omega))
  refine cV [(7,12),(8,13),(9,14),(10,15)] ?_
  iterate 4 refine bj ?_
  refine mX 11 16 (.bool false) ?_ ?_
  ·(intro w nr;(try dsimp only at nr);go_simp;(try omega))
  refine cV [(12,17),(13,18),(14,19),(15,20)] ?_
  iterate 4 refine bj ?_
  refine mX 16 21 (.bool false) ?_ ?_
  ·(intro w nr;(try dsimp only at nr);go_simp;(try omega))
  refine cV [(17,22),(18,23),(19,24),(20,25),(21,26),(22,27),(23,28)] ?_
  iterate 7 refine bj ?_
  refine dn 24 29 λK hK=>?_;go_simp
  go_at_call 149
  refine(KN.o _).mono ?_;rintro r w2 ⟨rfl,bS⟩;have P2:=xh (au OD.o bS);go_simp;refine aW hK (HK.o _ P2.o) (λaq=>?_);refine mX 25 30 (.bool true) ?_ ?_
  ·(intro w nr;(try dsimp only at nr);go_simp;(try omega))
  refine cV [(26,31)] ?_
  iterate 1 refine bj ?_
  refine wpAnyH_done (by kernel_rfl) ?_ _;have PP:=xh (au O0.o P2.o);go_wp2_with fail;go_ret;refine⟨?_,PP.o⟩
  cases b
  .first|rfl|simp
  .exfalso;have hr:=HB.o.1 rfl;have hl:=HL.o;unfold k8 at hr;rw[HND.o]at hr;omega
 .replace KN:=xh (KN.o (by omega))
  obtain⟨nd,AF⟩:∃nd,vR lg=nd:=⟨_,rfl⟩;have HND:=xh AF;rw[AF]at KN h5;clear AF;go_enter func156,ntmps156;go_wp2_with fail;generalize hW:(w.alloc (.cells #[.int .i64 ep,.int .i64 lg,.slice A n c] 155))=W at *;clear hW
  have HK:=xh (show ∀W',Below W.heap.size W W'->(W'.cell? ⟨w.heap.size,0,none⟩=some (.int .i64 ep)/\W'.cell? ⟨w.heap.size,1,none⟩=some (.int .i64 lg)/\W'.cell? ⟨w.heap.size,2,none⟩=some (.slice A n c))from λW' ho=>⟨(B0.o.below ho B0.o.lt).ab (i:=0) rfl,(B0.o.below ho B0.o.lt).ab (i:=1) rfl,(B0.o.below ho B0.o.lt).ab (i:=2) rfl⟩);have OD:=xh ((Below.refl W.heap.size W).drew)
  refine wp_region_held_drew (S:=λW'=>W'.cell? ⟨w.heap.size,0,none⟩=some (.int .i64 ep)/\W'.cell? ⟨w.heap.size,1,none⟩=some (.int .i64 lg)/\W'.cell? ⟨w.heap.size,2,none⟩=some (.slice A n c)) (by kernel_rfl) (HK.o _ OD.o) (λaq=>?_);refine cV [(0,5),(1,6)] ?_
  iterate 2 refine bj ?_
  refine mX 2 7 (.bool false) ?_ ?_
  ·(intro w nr;(try dsimp only at nr);go_simp;(try omega))
  refine cV [(3,8),(4,9),(5,10)] ?_
  iterate 3 refine bj ?_
  refine mX 6 11 (.bool false) ?_ ?_
  ·(intro w nr;(try dsimp only at nr);go_simp;(try omega))
  refine cV [(7,12),(8,13),(9,14),(10,15)] ?_
  iterate 4 refine bj ?_
  refine mX 11 16 (.bool false) ?_ ?_
  ·(intro w nr;(try dsimp only at nr);go_simp;(try omega))
  refine cV [(12,17),(13,18),(14,19),(15,20)] ?_
  iterate 4 refine bj ?_
  refine mX 16 21 (.bool false) ?_ ?_
  ·(intro w nr;(try dsimp only at nr);go_simp;(try omega))
  refine cV [(17,22),(18,23),(19,24),(20,25),(21,26),(22,27),(23,28)] ?_
  iterate 7 refine bj ?_
  refine dn 24 29 λK hK=>?_;go_simp
  go_at_call 149
  refine(KN.o _).mono ?_;rintro r w2 ⟨rfl,bS⟩;have P2:=xh (au OD.o bS);go_simp;refine aW hK (HK.o _ P2.o) (λaq=>?_);refine mX 25 30 (.bool false) ?_ ?_
  ·(intro w nr;(try dsimp only at nr);go_simp;(try omega))
  refine cV [(26,31)] ?_
  iterate 1 refine bj ?_
  refine wpAnyH_done (by kernel_rfl) ?_ _;have PP:=xh (au O0.o P2.o);have B2:=xh (B0.o.below P2.o B0.o.lt);have H2:=xh (H0.o.below P2.o);have y2:w2.cell? ⟨w.heap.size,2,none⟩=some (.slice A n c):=B2.o.ab (i:=2) rfl;go_wp2_with fail
  go_loopw [35] (λiv wr=> ∃i:Nat,i<=n/\iv=.int .i64 i/\Hid (∀j x,j<i->l[j]?=some x->0<=x/\x<=1023/\x∉l.take j)/\wr=w2) (λiv _=>n-(intOf iv).toNat)
  case atStart=>exact⟨0,bm _,rfl,xh (λj x h=>absurd h (kF _)),rfl⟩
  case round=>
   obtain⟨i,hi,rfl,HX,rfl⟩:=hrel
   by_cases h':i<n
   .obtain⟨ad,x,rfl,hx,ck⟩:=H2.o.at i h';have hiI:(i:Int)<(n:Int):=by omega
    have HXX:=xh hx;have HT:=xh (H2.o.take i (by omega));clear hx;have NO:=xh (show ¬(0<=x/\x<=1023/\x∉l.take i)->b=false from λtC=>by
     cases b
     .rfl
     .exact absurd ((HB.o.1 rfl).2.2.2.2.2 i x HXX.o) tC)
    by_cases x0:x<0
    .go_wp2_with fail;go_ret;refine⟨?_,PP.o⟩;rw[NO.o (by omega)];first|rfl|simp
    .by_cases x1:1023<x
     .go_wp2_with fail;go_ret;refine⟨?_,PP.o⟩;rw[NO.o (by omega)];first|rfl|simp
     .obtain⟨q,hq⟩:=bool_of (x∈l.take i);have KC:=xh (DM (w:=wr) (some ad) i c (l.take i) x HT.o (by omega) q hq);have HQ:=xh hq;have hc:(i:Int)<=(c:Int):=by omega
      clear hq;go_wp2_with fail;refine KC.o.mono ?_;rintro e w3 ⟨rfl,rfl⟩
      cases q
      .have HX2:=xh (show ∀j z,j<i+1->l[j]?=some z->0<=z/\z<=1023/\z∉l.take j from λj z hj hz=>by
        rcases nZ.1 hj with h1|rfl
        .exact HX.o j z h1 hz
        .rw[HXX.o]at hz;injection hz with hz;subst hz
         exact⟨by omega,by omega,λhm=>by have:=HQ.o.2 hm;cases this⟩)
       go_wp2_with fail;go_roundw
       case rel=>exact⟨i+1,by omega,by go_num,HX2,by first|rfl|trivial⟩
       case measure=>simp[intOf];omega
      .go_wp2_with fail;go_ret;refine⟨?_,PP.o⟩;rw[NO.o (λhx=>hx.2.2 (HQ.o.1 (by trivial)))];first|rfl|simp
   .obtain rfl:i=n:=by omega
    go_wp2_with fail;go_ret;refine⟨?_,PP.o⟩;have:k8 ep lg l:=⟨by omega,by omega,by omega,by omega,by rw[HND.o,HL.o];exact h5,λj x hx=>HX.o j x (by have:=(aX.1 hx).1;rw[HL.o]at this;exact this) hx⟩;rw[HB.o.2 this];first|rfl|simp
attribute [local go_sem ↓] bq
variable{w:World}
def fA(n:Nat):List UInt8:=[UInt8.ofNat (n / 256),UInt8.ofNat n]
theorem DN{P:Program}{e:TypeId}{v:Value}{n:Nat}{l:List Value}(S:aK w e 1 v n l)
 (T ty:TypeId)(z:Value)(bytes:Nat)(ht:P.underlying T=some (.slice e))(l6:(P.info? e).map (λi=>(i.zero,i.size,i.bytes))=some (some z,1,bytes))(hz:z.cells.size=1)
 (news:List Value)(hx:∀u∈news,u.oneCell'=true)(Dt:n+news.length<=maxLen)(hb:(n+news.length)*bytes<=140737488355328):
  ∃v' w',df P T ty (w.alloc (.cells news.toArray e)) v (.slice (some ⟨w.heap.size,0,none⟩) news.length news.length)= .ok v' w'/\aK w' e 1 v' (n+news.length) (l++news)/\ag (ah v) w w'/\(∀g∈ah v',g∈ah v\/w.heap.size<=g):=by
 obtain⟨i0,hi,ke,iX,jF⟩:=info_parts l6;obtain⟨v',w',h1,h2,h3,h4⟩:=di (P:=P) (S.alloc (.cells news.toArray e)) T ty i0 z bytes ht hi ke iX jF hz (by omega)
  ⟨w.heap.size,0,none⟩ news.length news.length news (by simp) (bn (l:=news) (aE.new w e news.toArray) 0 _ (by intro j u hu;rw[bh];exact hu)) hx Dt hb
 exact⟨v',w',h1,h2,((ag.refl _ _).alloc _).aN h3 (λx hx _=>hx),λg hg=>(h4 g hg).imp id (λh=>by simp at h;omega)⟩
theorem fo(v:Value)(k:Nat)(l:List UInt8)(S:aK w 5 1 v k (dh l))(n:Nat)(hn:n<=65535)(hk:k<=1000):
  Calls prog 157 #[v,.int .i64 (n:Nat)] w λe w'=>(∃v',e=.returned v'/\aK w' 5 1 v' (k+2) (dh (l++fA n))/\(∀g∈ah v',g∈ah v\/w.heap.size<=g))/\ag (ah v) w w':=by
 obtain⟨A,c,rfl⟩:=ao S;have e0:Value.int .u8 ((n:Int) / 256)=bv (UInt8.ofNat (n / 256)):=by
  unfold bv
  congr 1
  rw[gZ];omega
 have e1:Value.int .u8 ((n:Int) % 256)=bv (UInt8.ofNat n):=by
  unfold bv;rfl
 obtain⟨v',w2,ea,S2,ow,fr⟩:=DN (P:=prog) S 150 150 (.int .u8 0) 1 underlying150 jG.dU rfl [.int .u8 ((n:Int) / 256),.int .u8 ((n:Int) % 256)] (by intro u hu;simp at hu;rcases hu with rfl|rfl<;>rfl) (by simp;unfold maxLen;omega) (by simp;omega);obtain⟨V2,hJ,rfl⟩:=ao S2
 have EA:=xh (show df prog 150 150 (w.alloc (.cells #[.int .u8 ((n:Int) / 256),.int .u8 ((n:Int) % 256)] 5)) (.slice A k c) (.slice (some ⟨w.heap.size,0,none⟩) 2 2)= .ok (.slice V2 (k+2) hJ) w2 from ea);have SX:=xh (show aK w2 5 1 (.slice V2 (k+2) hJ) (k+2) (dh (l++fA n))from by
  rw[e0,e1]at S2;rw[cw];exact S2)
 have OX:=xh ow;have FX:=xh fr;have m1:IntKind.u8.wrap ((n:Int) / 256)=(n:Int) / 256:=IntWalk.u8_in _ (by omega);clear ea S2 ow fr S e0 e1;go_enter func157,ntmps157;go_wp2_with fail;rw[EA.o];go_wp2_with fail;go_ret;exact⟨⟨_,rfl,SX.o,FX.o⟩,OX.o⟩
def uH(lg:Nat)(l:List Nat):List UInt8:=(fA lg++fA l.length++(l++List.replicate (5-l.length) 0).flatMap fA)++List.replicate 30 0
def vS(ep:Int)(lg:Nat)(l:List Nat):List UInt8:=dj ep++jG.cf (uH lg l)++dj ep
def lenV:Value->Nat
 |.slice _ n _=>n
 |_=>0
theorem Q0(a0 a1 a2 a3 a4:Int)(w:World)(k:Nat)(x:Value)(hx: #[Value.int .i64 a0,.int .i64 a1,.int .i64 a2,.int .i64 a3,.int .i64 a4][k]?=some x):
  (Instr.index 231 (.agg #[.int .i64 a0,.int .i64 a1,.int .i64 a2,.int .i64 a3,.int .i64 a4]) (.int .i64 (k:Int))).run prog w=.ok x w:=by
 have hu:prog.underlying 231=some (.array 5 3):=by kernel_rfl
 have hm:(prog.info? 3).map (·.size)=some 1:=by kernel_rfl
 have hp:prog.plainKey 3=true:=by kernel_rfl
 have hk:k<5:=by
  rcases eT k 5 with h|h
  .exact h
  .rw[Qi (by simpa using h)]at hx;cases hx
 cases hq:prog.info? 3 with
 |none=>simp[hq]at hm
 |some i=>
  simp only[hq,mK,Option.some.injEq]at hm;have:=run_part_plain (P:=prog) w hp hx;simp[Instr.index,asIntOf,run_underlying hu,hk,sizeOf,typeInfo,hq,hm];exact this
def tD(l:List Nat):List Int:=l.map Int.ofNat
def Q1(l:List Nat):List Value:=l.map λ(x:Nat)=>Value.int .i64 (x:Int)
theorem Ja{W:World}{g:Nat}{A:Option Addr}{n c:Nat}{l:List Nat}(B:aE W g 231 #[.int .i64 0,.int .i64 0,.int .i64 0,.int .i64 0,.int .i64 0])(H:jR W A n (tD l))(hl:l.length=n)(hn:n<=5):
  ∃w',(Builtin.copy_ #[60,60] 3 #[.slice (some ⟨g,0,none⟩) 5 5,.slice A n c]).run prog W=.ok (goInt n) w'/\aE w' g 231 (Q1 (l++List.replicate (5-l.length) 0)).toArray/\ag [g] W w':=by
 cases A with
 |none=>
  have h0:n=0:=by
   by_cases h0:n=0
   .exact h0
   .obtain⟨ad,x,h1,_⟩:=H.at 0 (by omega)
    cases h1
  subst h0;have Nf:l=[]:=nW hl;subst Nf;refine⟨W,?_,B,ag.refl _ _⟩;simp[Builtin.copy_,run_underlying underlying60,Builtin.lenOf,Builtin.firstCells,storeCells]
 |some ad=>
  have hlen:(Q1 l).length=n:=by simp[Q1,hl]
  obtain⟨w',e,B',o⟩:=yd (P:=prog) (cur:=[.int .i64 0,.int .i64 0,.int .i64 0,.int .i64 0,.int .i64 0]) B 60 60 3 3 0 5 5 ad n c (Q1 l) underlying60 (by kernel_rfl) (by rw[hlen];exact(xr hn).symm)
   (λj v hv=>by
    have hj:j<l.length:=by have:=(aX.1 hv).1;simpa [Q1]using this
    have hx:(tD l)[j]?=some (Int.ofNat l[j]):=by simp[tD,aT hj]
    obtain⟨ad',e1,h1⟩:=H.2 j _ hx;injection e1 with e1
    subst e1;simp only[Q1,kY,aT hj,mK,Option.some.injEq]at hv;subst hv;exact h1) (by rw[hlen];exact(by omega:0+n<=5)) (by intro v hv;simp only[Q1,cg]at hv;obtain⟨x,_,rfl⟩:=hv;rfl)
  rw[hlen]at e;refine⟨w',e,?_,o⟩;have:putAt [.int .i64 0,.int .i64 0,.int .i64 0,.int .i64 0,.int .i64 0] 0 (Q1 l)=Q1 (l++List.replicate (5-l.length) 0):=by
   unfold putAt;rw[iM,cX,bh,hlen,hl];have hz:([.int .i64 0,.int .i64 0,.int .i64 0,.int .i64 0,.int .i64 0]:List Value).drop n=Q1 (List.replicate (5-n) 0):=by
    rcases(show n=0\/n=1\/n=2\/n=3\/n=4\/n=5 by omega)with rfl|rfl|rfl|rfl|rfl|rfl<;>rfl
   rw[hz];simp[Q1]
  rw[<-this];exact B'
theorem Q3{w:World}(ep:Int)(lg:Nat)(A:Option Addr)(n c:Nat)(l:List Nat)(h:jR w A n (tD l))(Ic:n<=c)(hr:k8 ep lg (tD l)):
  Calls prog 102 #[Fy ep lg A n c] w λe w'=>e=.returned (.tuple #[.string ⟨(vS ep lg l).toArray⟩,.int .i64 0])/\Below w.heap.size w w':=by
 have oC:=I9 hr;have oU:l.length=n:=by have:=h.1;simpa [tD]using this
 have hn:n<=5:=by rw[<-oU];simpa [tD]using oC
 have hlg:lg<=512:=by have:=hr.2.2.2.1;omega
 have O0:=ae (Below.refl w.heap.size w) (.cells #[.int .i64 ep,.int .i64 (lg:Int),.slice A n c] 155);have B0:=xh (aE.new w 155 #[.int .i64 ep,.int .i64 (lg:Int),.slice A n c]);have H0:=xh (h.below O0);have KR:=xh (uG (w:=w.alloc (.cells #[.int .i64 ep,.int .i64 (lg:Int),.slice A n c] 155)) ep lg A n c (tD l) H0.o (by omega) Ic true (by simp[hr]));have O0:=xh O0;have HR:=xh hr;have nt:=xh oU;clear h hr oC;unfold Fy at *
 go_enter func102,ntmps102;go_wp2_with fail;generalize hW:(w.alloc (.cells #[.int .i64 ep,.int .i64 (lg:Int),.slice A n c] 155))=W at *;clear hW;refine KR.o.mono ?_;rintro e w1 ⟨rfl,aJ⟩;have O1:=xh (au O0.o aJ);have B1:=xh (B0.o.below aJ B0.o.lt);have H1:=xh (H0.o.below aJ);clear aJ KR;go_wp2_with fail
 have HK:=xh (show ∀W',Below w1.heap.size w1 W'->(W'.cell? ⟨w.heap.size,0,none⟩=some (.int .i64 ep)/\W'.cell? ⟨w.heap.size,1,none⟩=some (.int .i64 (lg:Int))/\W'.cell? ⟨w.heap.size,2,none⟩=some (.slice A n c))from λW' ho=>⟨(B1.o.below ho B1.o.lt).ab (i:=0) rfl,(B1.o.below ho B1.o.lt).ab (i:=1) rfl,(B1.o.below ho B1.o.lt).ab (i:=2) rfl⟩);have OD:=xh ((Below.refl w1.heap.size w1).drew)
 refine wp_region_held_drew (S:=λW'=>W'.cell? ⟨w.heap.size,0,none⟩=some (.int .i64 ep)/\W'.cell? ⟨w.heap.size,1,none⟩=some (.int .i64 (lg:Int))/\W'.cell? ⟨w.heap.size,2,none⟩=some (.slice A n c)) (by kernel_rfl) (HK.o _ OD.o) (λaq=>?_);refine cV [(0,12),(1,13),(3,15),(4,16),(5,17)] ?_
 iterate 5 refine bj ?_
 refine dn 2 14 λK hK=>?_;go_simp
 go_at_call 157
 refine(fo _ 0 [] (aK.nil _ _ _) lg (by omega) (by omega)).mono ?_;rintro r w2 ⟨⟨v2,rfl,S2,F2⟩,o2⟩;have P2:=xh (OD.o.trans (o2.aO OD.o.size (by simp[ah])));have F2:=xh (show ∀g∈ah v2,w1.heap.size<=g from λg hg=>(F2 g hg).elim (λh=>by simp[ah]at h) (λh=>ay OD.o.size h));go_simp;refine aW hK (HK.o _ P2.o) (λaq=>?_);refine dn 6 18 λK hK=>?_;go_simp
 go_at_call 157
 refine(fo _ 2 _ S2 n (by omega) (by omega)).mono ?_;rintro r w3 ⟨⟨v3,rfl,S3,F3⟩,o3⟩;have P3:=xh (P2.o.trans (o3.aO P2.o.size F2.o));have F3:=xh (show ∀g∈ah v3,w1.heap.size<=g from λg hg=>(F3 g hg).elim (F2.o g) (λh=>ay P2.o.size h));go_simp;refine aW hK (HK.o _ P3.o) (λaq=>?_);refine cV [(7,4)] ?_
 iterate 1 refine bj ?_
 refine wpAnyH_done (by kernel_rfl) ?_ _;have O3:=xh (au O1.o P3.o);have B3:=xh (B1.o.below P3.o B1.o.lt);have H3:=xh (H1.o.below P3.o);have S3:=xh S3;obtain⟨V3,c3,rfl⟩:=ao S3.o;have F3:=xh (show ∀g∈ah (.slice V3 4 c3),w.heap.size+1<=g from λg hg=>ay (by have:=B1.o.lt;omega) (F3.o g hg));clear aq o2 o3 S2 P2 P3 F2 OD HK;have BA:=xh (aE.new w3 231 #[.int .i64 0,.int .i64 0,.int .i64 0,.int .i64 0,.int .i64 0])
 have O4:=xh (ae O3.o (.cells #[.int .i64 0,.int .i64 0,.int .i64 0,.int .i64 0,.int .i64 0] 231));have B4:=xh (B3.o.alloc (.cells #[.int .i64 0,.int .i64 0,.int .i64 0,.int .i64 0,.int .i64 0] 231));have S4:=xh (S3.o.alloc (.cells #[.int .i64 0,.int .i64 0,.int .i64 0,.int .i64 0,.int .i64 0] 231));have H4:=xh (H3.o.below (ae (Below.refl _ _) (.cells #[.int .i64 0,.int .i64 0,.int .i64 0,.int .i64 0,.int .i64 0] 231)));go_wp2_with fail
 generalize hW:(w3.alloc _)=w4 at *;have W3LT:=B4.o.lt;have HK:=xh (show ∀W',ag [w3.heap.size] w4 W'->(W'.cell? ⟨w.heap.size,0,none⟩=some (.int .i64 ep)/\W'.cell? ⟨w.heap.size,1,none⟩=some (.int .i64 (lg:Int))/\W'.cell? ⟨w.heap.size,2,none⟩=some (.slice A n c))from λW' ho=>by
  have eV:w.heap.size∉[w3.heap.size]:=by have:=B3.o.lt;simp;omega
  have B:=B4.o.only ho eV;exact⟨B.ab (i:=0) rfl,B.ab (i:=1) rfl,B.ab (i:=2) rfl⟩)
 have OD:=xh ((ag.refl [w3.heap.size] w4).drew);refine wp_region_held_drew (S:=λW'=>W'.cell? ⟨w.heap.size,0,none⟩=some (.int .i64 ep)/\W'.cell? ⟨w.heap.size,1,none⟩=some (.int .i64 (lg:Int))/\W'.cell? ⟨w.heap.size,2,none⟩=some (.slice A n c)) (by kernel_rfl) (HK.o _ OD.o) (λaq=>?_);refine cV [(0,19),(1,20),(2,21)] ?_
 iterate 3 refine bj ?_
 refine dn 3 22 λK hK=>?_;obtain⟨w5,ec,BQ,oc⟩:=Ja (W:=w4.drew) BA.o (show jR w4.drew A n (tD l)from H4.o.below (Below.refl _ _).drew) nt.o hn;have EC:=xh ec;have OC:=xh (OD.o.trans oc);have BQ:=xh BQ;clear ec oc;go_simp;rw[EC.o];go_simp;refine aW hK (HK.o _ OC.o) (λaq=>?_);refine wpAnyH_done (by kernel_rfl) ?_ _;have hq5:(l++List.replicate (5-l.length) 0).length=5:=by rw[aQ,fi];have:=nt.o;omega
 have hqs:∀x∈l++List.replicate (5-l.length) 0,x<=1023:=by
  intro x hx
  rcases az.1 hx with hx|hx
  .obtain⟨i,hi,rfl⟩:=pB hx;have h1:=HR.o.2.2.2.2.2 i ((l[i]:Nat):Int) (by simp[tD];exact⟨l[i],aT hi,rfl⟩);omega
  .have:=xY hx;omega
 obtain⟨q,hqq⟩:∃q,l++List.replicate (5-l.length) 0=q:=⟨_,rfl⟩;have HQQ:=xh hqq;rw[hqq]at BQ hq5 hqs;clear hqq
 match q,hq5 with
 |[q0,q1,q2,q3,q4],_=>
 have p0:q0<=1023:=hqs _ (by simp);have p1:q1<=1023:=hqs _ (by simp);have p2:q2<=1023:=hqs _ (by simp);have p3:q3<=1023:=hqs _ (by simp);have p4:q4<=1023:=hqs _ (by simp);have a0:w5.cell? ⟨w3.heap.size,0,none⟩=some (.int .i64 (q0:Int)):=BQ.o.ab (i:=0) rfl;have a1:w5.cell? ⟨w3.heap.size,1,none⟩=some (.int .i64 (q1:Int)):=BQ.o.ab (i:=1) rfl;have a2:w5.cell? ⟨w3.heap.size,2,none⟩=some (.int .i64 (q2:Int)):=BQ.o.ab (i:=2) rfl
 have a3:w5.cell? ⟨w3.heap.size,3,none⟩=some (.int .i64 (q3:Int)):=BQ.o.ab (i:=3) rfl;have a4:w5.cell? ⟨w3.heap.size,4,none⟩=some (.int .i64 (q4:Int)):=BQ.o.ab (i:=4) rfl;have Jb:w.heap.size<w3.heap.size:=B3.o.lt;have O5:=xh (O4.o.trans (OC.o.aO O4.o.size (λx hx=>by simp at hx;omega)));have B5:=xh (B4.o.only OC.o (by simp;omega));have S5:=xh (S4.o.only OC.o (λx hx=>by have:=S3.o.lt x hx;simp;omega));clear aq hqs OD HK
 go_wp2_with fail;obtain⟨HD,hHD⟩:∃HD,[]++fA lg++fA n=HD:=⟨_,rfl⟩;have HHD:=xh hHD;rw[hHD]at S5;clear hHD a0 a1 a2 a3 a4 S4 S3
 go_loopw [4,24] (λsv iv wr=> ∃k:Nat,k<=5/\iv=.int .i64 (k:Int)/\aK wr 5 1 sv (4+2*k) (dh (HD++([q0,q1,q2,q3,q4].take k).flatMap fA))/\Hid (aE wr w.heap.size 155 #[.int .i64 ep,.int .i64 (lg:Int),.slice A n c])/\Below w.heap.size w wr/\Hid (∀x∈ah sv,w.heap.size+1<=x)) (λ_ iv _=>5-(intOf iv).toNat)
 case atStart=>exact⟨0,by omega,rfl,by simpa using S5.o,B5,O5.o,F3⟩
 case round=>
  obtain⟨k,hk,rfl,S,C,O,F⟩:=hrel;obtain⟨VA,vc,rfl⟩:=ao S
  rcases(show k=0\/k=1\/k=2\/k=3\/k=4\/k=5 from by omega)with rfl|rfl|rfl|rfl|rfl|rfl
  .have K:=xh (fo _ 4 _ S q0 (by omega) (by omega));have OO:=xh O;have IX:=xh (show(Instr.index 231 (.agg #[.int .i64 (q0:Int),.int .i64 (q1:Int),.int .i64 (q2:Int),.int .i64 (q3:Int),.int .i64 (q4:Int)]) (.int .i64 0)).run prog wr=.ok (.int .i64 (q0:Int)) wr from Q0 q0 q1 q2 q3 q4 wr 0 _ rfl);clear S O;go_wp2_with fail;rw[IX.o];go_wp2_with fail;refine K.o.mono ?_;rintro r w7 ⟨⟨v7,rfl,S7,F7⟩,o7⟩
   have O7:=xh (OO.o.trans (o7.aO OO.o.size (λx hx=>by have:=F.o x hx;omega)));have C7:=xh (C.o.only o7 (λhx=>by have:=F.o _ hx;omega));have F7:=xh (show ∀x∈ah v7,w.heap.size+1<=x from λx hx=>(F7 x hx).elim (F.o x) (λh=>by have:=C.o.lt;omega));have S7:=xh (show aK w7 5 1 v7 (4+2*(0+1)) (dh (HD++([q0,q1,q2,q3,q4].take (0+1)).flatMap fA))from by
    have hx:HD++([q0,q1,q2,q3,q4].take (0+1)).flatMap fA=(HD++([q0,q1,q2,q3,q4].take 0).flatMap fA)++fA q0:=by simp
    rw[hx];exact S7)
   obtain⟨V7,c7,rfl⟩:=ao S7.o;clear o7;go_wp2_with fail;go_roundw
   case rel=>exact⟨0+1,by omega,by first|rfl|go_num,S7.o,C7,O7.o,F7⟩
   case measure=>simp[intOf]
  .have K:=xh (fo _ 6 _ S q1 (by omega) (by omega));have OO:=xh O;have IX:=xh (show(Instr.index 231 (.agg #[.int .i64 (q0:Int),.int .i64 (q1:Int),.int .i64 (q2:Int),.int .i64 (q3:Int),.int .i64 (q4:Int)]) (.int .i64 1)).run prog wr=.ok (.int .i64 (q1:Int)) wr from Q0 q0 q1 q2 q3 q4 wr 1 _ rfl);clear S O;go_wp2_with fail;rw[IX.o];go_wp2_with fail;refine K.o.mono ?_;rintro r w7 ⟨⟨v7,rfl,S7,F7⟩,o7⟩
   have O7:=xh (OO.o.trans (o7.aO OO.o.size (λx hx=>by have:=F.o x hx;omega)));have C7:=xh (C.o.only o7 (λhx=>by have:=F.o _ hx;omega));have F7:=xh (show ∀x∈ah v7,w.heap.size+1<=x from λx hx=>(F7 x hx).elim (F.o x) (λh=>by have:=C.o.lt;omega));have S7:=xh (show aK w7 5 1 v7 (4+2*(1+1)) (dh (HD++([q0,q1,q2,q3,q4].take (1+1)).flatMap fA))from by
    have hx:HD++([q0,q1,q2,q3,q4].take (1+1)).flatMap fA=(HD++([q0,q1,q2,q3,q4].take 1).flatMap fA)++fA q1:=by simp
    rw[hx];exact S7)
   obtain⟨V7,c7,rfl⟩:=ao S7.o;clear o7;go_wp2_with fail;go_roundw
   case rel=>exact⟨1+1,by omega,by first|rfl|go_num,S7.o,C7,O7.o,F7⟩
   case measure=>simp[intOf]
  .have K:=xh (fo _ 8 _ S q2 (by omega) (by omega));have OO:=xh O;have IX:=xh (show(Instr.index 231 (.agg #[.int .i64 (q0:Int),.int .i64 (q1:Int),.int .i64 (q2:Int),.int .i64 (q3:Int),.int .i64 (q4:Int)]) (.int .i64 2)).run prog wr=.ok (.int .i64 (q2:Int)) wr from Q0 q0 q1 q2 q3 q4 wr 2 _ rfl);clear S O;go_wp2_with fail;rw[IX.o];go_wp2_with fail;refine K.o.mono ?_;rintro r w7 ⟨⟨v7,rfl,S7,F7⟩,o7⟩
   have O7:=xh (OO.o.trans (o7.aO OO.o.size (λx hx=>by have:=F.o x hx;omega)));have C7:=xh (C.o.only o7 (λhx=>by have:=F.o _ hx;omega));have F7:=xh (show ∀x∈ah v7,w.heap.size+1<=x from λx hx=>(F7 x hx).elim (F.o x) (λh=>by have:=C.o.lt;omega));have S7:=xh (show aK w7 5 1 v7 (4+2*(2+1)) (dh (HD++([q0,q1,q2,q3,q4].take (2+1)).flatMap fA))from by
    have hx:HD++([q0,q1,q2,q3,q4].take (2+1)).flatMap fA=(HD++([q0,q1,q2,q3,q4].take 2).flatMap fA)++fA q2:=by simp
    rw[hx];exact S7)
   obtain⟨V7,c7,rfl⟩:=ao S7.o;clear o7;go_wp2_with fail;go_roundw
   case rel=>exact⟨2+1,by omega,by first|rfl|go_num,S7.o,C7,O7.o,F7⟩
   case measure=>simp[intOf]
  .have K:=xh (fo _ 10 _ S q3 (by omega) (by omega));have OO:=xh O;have IX:=xh (show(Instr.index 231 (.agg #[.int .i64 (q0:Int),.int .i64 (q1:Int),.int .i64 (q2:Int),.int .i64 (q3:Int),.int .i64 (q4:Int)]) (.int .i64 3)).run prog wr=.ok (.int .i64 (q3:Int)) wr from Q0 q0 q1 q2 q3 q4 wr 3 _ rfl);clear S O;go_wp2_with fail;rw[IX.o];go_wp2_with fail;refine K.o.mono ?_;rintro r w7 ⟨⟨v7,rfl,S7,F7⟩,o7⟩
   have O7:=xh (OO.o.trans (o7.aO OO.o.size (λx hx=>by have:=F.o x hx;omega)));have C7:=xh (C.o.only o7 (λhx=>by have:=F.o _ hx;omega));have F7:=xh (show ∀x∈ah v7,w.heap.size+1<=x from λx hx=>(F7 x hx).elim (F.o x) (λh=>by have:=C.o.lt;omega));have S7:=xh (show aK w7 5 1 v7 (4+2*(3+1)) (dh (HD++([q0,q1,q2,q3,q4].take (3+1)).flatMap fA))from by
    have hx:HD++([q0,q1,q2,q3,q4].take (3+1)).flatMap fA=(HD++([q0,q1,q2,q3,q4].take 3).flatMap fA)++fA q3:=by simp
    rw[hx];exact S7)
   obtain⟨V7,c7,rfl⟩:=ao S7.o;clear o7;go_wp2_with fail;go_roundw
   case rel=>exact⟨3+1,by omega,by first|rfl|go_num,S7.o,C7,O7.o,F7⟩
   case measure=>simp[intOf]
  .have K:=xh (fo _ 12 _ S q4 (by omega) (by omega));have OO:=xh O;have IX:=xh (show(Instr.index 231 (.agg #[.int .i64 (q0:Int),.int .i64 (q1:Int),.int .i64 (q2:Int),.int .i64 (q3:Int),.int .i64 (q4:Int)]) (.int .i64 4)).run prog wr=.ok (.int .i64 (q4:Int)) wr from Q0 q0 q1 q2 q3 q4 wr 4 _ rfl);clear S O;go_wp2_with fail;rw[IX.o];go_wp2_with fail;refine K.o.mono ?_;rintro r w7 ⟨⟨v7,rfl,S7,F7⟩,o7⟩
   have O7:=xh (OO.o.trans (o7.aO OO.o.size (λx hx=>by have:=F.o x hx;omega)));have C7:=xh (C.o.only o7 (λhx=>by have:=F.o _ hx;omega));have F7:=xh (show ∀x∈ah v7,w.heap.size+1<=x from λx hx=>(F7 x hx).elim (F.o x) (λh=>by have:=C.o.lt;omega));have S7:=xh (show aK w7 5 1 v7 (4+2*(4+1)) (dh (HD++([q0,q1,q2,q3,q4].take (4+1)).flatMap fA))from by
    have hx:HD++([q0,q1,q2,q3,q4].take (4+1)).flatMap fA=(HD++([q0,q1,q2,q3,q4].take 4).flatMap fA)++fA q4:=by simp
    rw[hx];exact S7)
   obtain⟨V7,c7,rfl⟩:=ao S7.o;clear o7;go_wp2_with fail;go_roundw
   case rel=>exact⟨4+1,by omega,by first|rfl|go_num,S7.o,C7,O7.o,F7⟩
   case measure=>simp[intOf]
  .have OO:=xh O;have SS:=xh (show aK wr 5 1 (.slice VA 14 vc) 14 (dh (HD++[q0,q1,q2,q3,q4].flatMap fA))from S);clear S O;go_wp2_with fail;obtain⟨M,hM⟩:∃M,HD++[q0,q1,q2,q3,q4].flatMap fA=M:=⟨_,rfl⟩;have HM:=xh (show M++List.replicate 30 0=uH lg l from by
    unfold uH;rw[<-hM,<-HHD.o,HQQ.o,nt.o,cX])
   rw[hM]at SS;clear hM
   go_loopw [4] (λsv wx=> ∃j:Nat,j<=30/\aK wx 5 1 sv (14+j) (dh (M++List.replicate j 0))/\Hid (aE wx w.heap.size 155 #[.int .i64 ep,.int .i64 (lg:Int),.slice A n c])/\Below w.heap.size w wx/\Hid (∀x∈ah sv,w.heap.size+1<=x)) (λsv _=>44-lenV sv)
   case atStart=>exact⟨0,by omega,by simpa using SS.o,C,OO.o,F⟩
   case round=>
    obtain⟨j,hj,S,C,O,F⟩:=hrel;obtain⟨VB,vb,rfl⟩:=ao S
    by_cases h:j<30
    .have h1:(14:Int)+(j:Int)<44:=by omega
     have h2:14+j<44:=by omega
     have h3:((14+j:Nat):Int)<44:=by omega
     obtain⟨v8,w8,ea,S8,o8,f8⟩:=cU (P:=prog) S 150 150 (.int .u8 0) 1 underlying150 jG.dU rfl (.int .u8 0) rfl (by unfold maxLen;omega) (by omega);obtain⟨V8,c8,rfl⟩:=ao S8;have EA:=xh ea;have S9:=xh (show aK w8 5 1 (.slice V8 (14+(j+1)) c8) (14+(j+1)) (dh (M++List.replicate (j+1) 0))from by
      rw[sY,<-cL,cw];exact S8)
     have O8:=xh (O.trans (o8.aO O.size (λx hx=>by have:=F.o x hx;omega)));have C8:=xh (C.o.only o8 (λhx=>by have:=F.o _ hx;omega));have F8:=xh (show ∀x∈ah (.slice V8 (14+(j+1)) c8),w.heap.size+1<=x from λx hx=>(f8 x hx).elim (F.o x) (λh=>by have:=C.o.lt;omega));clear ea S8 o8 f8 S O;go_wp2_with fail;rw[EA.o];go_wp2_with fail;go_roundw
     case rel=>exact⟨_,_,_,_,_,_,_,⟨j+1,by omega,S9.o,C8,O8.o,F8⟩,rfl⟩
     case measure=>simp[lenV];omega
    .obtain rfl:j=30:=by omega
     have h2:¬((14+30:Nat):Int)<44:=by omega
     rw[HM.o]at S;obtain⟨gB,cap,rest,hv,BB,_,_⟩:=S.form (by omega) (by omega);simp only[Value.slice.injEq,true_and]at hv;obtain⟨rfl,rfl⟩:=hv;have ST:=xh (bZ (P:=prog) wr 150 9 5 underlying150 underlying5 underlying9 ⟨gB,0,none⟩ 44 vb (uH lg l) (by have:=S.1;simpa using this) (bn BB 0 _ (by intro j u hu;rw[bh];exact bD (aX.1 hu).1▸hu)))
     have wX:(uH lg l).length=44:=by have:=S.1;simpa using this
     obtain⟨T,hT⟩:∃T:ByteArray,(⟨(uH lg l).toArray⟩:ByteArray)=T:=⟨_,rfl⟩;have hTz:T.size=44:=by rw[<-hT];show(uH lg l).toArray.size=44;simpa using wX
     have Lm:T.data.toList=uH lg l:=by rw[<-hT]
     rw[hT]at ST;have KY:=xh (jG.Ll T wr (by omega));rw[Lm]at KY;have OO9:=xh O;have hlen48:(jG.cf (uH lg l)).length=48:=by unfold jG.cf;simp[jG.js,wX]
     have Dy:(dj ep).length=8:=by unfold dj vP;rw[om]
     obtain⟨L,hL⟩:∃L:ByteArray,(⟨(jG.cf (uH lg l)).toArray⟩:ByteArray)=L:=⟨_,rfl⟩;obtain⟨PI,hPI⟩:∃L:ByteArray,(⟨(dj ep).toArray⟩:ByteArray)=L:=⟨_,rfl⟩;have hLz:L.size=48:=by rw[<-hL];show(jG.cf (uH lg l)).toArray.size=48;simpa using hlen48
     have hPz:PI.size=8:=by rw[<-hPI];show(dj ep).toArray.size=8;simpa using Dy
     have Q4:=xh (show PI++L++PI=(⟨(vS ep lg l).toArray⟩:ByteArray)from by
      rw[<-hL,<-hPI];apply iS;apply nh.1;unfold vS;simp)
     rw[hL]at KY;have KI:=xh (λw=>I_any ep (by have:=HR.o.1;omega) HR.o.2.1 w);rw[hPI]at KI;clear S O BB hT Lm hL hPI wX hTz;go_wp2_with fail;rw[ST.o];go_wp2_with fail;refine KY.o.mono ?_;rintro e w9 ⟨rfl,hb9⟩;have O9:=xh (au OO9.o hb9);have B9:=xh (C.o.below hb9 C.o.lt);clear hb9;go_wp2_with fail
     have HK:=xh (show ∀W',Below w9.heap.size w9 W'->W'.cell? ⟨w.heap.size,0,none⟩=some (.int .i64 ep)from λW' ho=>(B9.o.below ho B9.o.lt).ab (i:=0) rfl);have OD:=xh ((Below.refl w9.heap.size w9).drew);have z1:¬9223372036854775807<PI.size+L.size:=by omega
     have z2:¬9223372036854775807<PI.size+L.size+PI.size:=by omega
     clear hLz hPz;refine wp_region_held_drew (S:=λW'=>W'.cell? ⟨w.heap.size,0,none⟩=some (.int .i64 ep)) (by kernel_rfl) (HK.o _ OD.o) (λaq=>?_);refine cV [(0,40),(1,41),(3,43),(5,45),(6,46)] ?_
     iterate 5 refine bj ?_
     refine dn 2 42 λK hK=>?_;go_simp
     go_at_call 88
     refine(KI.o _).mono ?_;rintro r wa ⟨rfl,hba⟩;have Pa:=xh (au OD.o hba);go_simp;refine aW hK (HK.o _ Pa.o) (λaq=>?_);refine cV [(4,44)] ?_
     iterate 1 refine bj ?_
     refine dn 7 47 λK hK=>?_;go_simp
     go_at_call 88
     refine(KI.o _).mono ?_;rintro r wb ⟨rfl,wY⟩;have Pb:=xh (au Pa.o wY);go_simp;refine aW hK (HK.o _ Pb.o) (λaq=>?_);refine cV [(8,48),(9,2),(10,3)] ?_
     iterate 3 refine bj ?_
     refine wpAnyH_done (by kernel_rfl) ?_ _;have OF:=xh (au O9.o Pb.o);go_wp2_with fail;go_ret2;exact⟨by rw[<-Q4.o];rfl,OF.o⟩
end Rt
end Go.Proofs.YtmonobkginiajaaGreat
