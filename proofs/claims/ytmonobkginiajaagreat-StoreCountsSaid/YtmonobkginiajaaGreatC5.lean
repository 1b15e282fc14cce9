/- packed. -/
import Derived.Test.YtmonobkginiajaaGreatC3
import Derived.Test.YtmonobkginiajaaGreatC4
import Derived.Test.YtmonobkginiajaaGreatC1
import Derived.Deep.QuietTactic
import Derived.BigQuiet
set_option linter.all false
set_option maxRecDepth 100000
set_option maxHeartbeats 8000000
namespace Go.Proofs.YtmonobkginiajaaGreat.Pg
open Go.RowKit Pk Dk
attribute [local go_sem ↓] Go.wp_at_zero Go.wp_at_succ
variable{w:World}
def bz(n:Nat):Nat:=(n-2) / 4
theorem ki{L:Dk.Loc}{n:Nat}{d:D}(h:aG w L n d):
  Calls Tryz.prog 136 #[dp L.b] w λe w'=>e=.returned (.int .i64 (bz n:Nat))/\w=w':=by
 have K:=xh (xO h);have hn:=h.ok.small;clear h;unfold dp at *;have e1:IntKind.i64.wrap ((n:Int)-2)=(n:Int)-2:=IntWalk.i64_in _ (by omega)
 by_cases h2:2<=n
 .obtain⟨m,rfl⟩:∃m,n=m+2:=⟨n-2,by omega⟩;have e2:IntKind.i64.wrap ((((m+2:Nat):Int)-2).tdiv 4)=((bz (m+2):Nat):Int):=by
   have:(((m+2:Nat):Int)-2)=(m:Int):=by omega
   rw[this,zJ (by omega),IntWalk.i64_in _ (by omega)];unfold bz;omega
  have h3:¬((m+2:Nat):Int)-2<0:=by omega
  have HM:=xh (show((bz (m+2):Nat):Int)=(m:Int) / 4 from by unfold bz;omega);go_enter Tryz.func136,Tryz.ntmps136;go_wp2_with fail;refine K.o.mono ?_;rintro e w1 ⟨rfl,rfl⟩;go_wp2_with fail
  all_goals
   go_ret;refine⟨?_,rfl⟩;rw[HM.o]
   first|(simp;done)|(simp;omega)
 .have h3:(n:Int)-2<0:=by omega
  have HM:=xh (show((bz n:Nat):Int)=0 from by unfold bz;omega);go_enter Tryz.func136,Tryz.ntmps136;go_wp2_with fail;refine K.o.mono ?_;rintro e w1 ⟨rfl,rfl⟩;go_wp2_with fail;go_ret;refine⟨?_,rfl⟩;rw[HM.o]
  first|(simp;done)|(simp;omega)
def lC(k:Nat):List Value:=[.int .i64 (k:Nat),.int .i64 ((k:Int)+1),.int .i64 ((k:Int)+2),.int .i64 ((k:Int)+3)]
def j5(k i:Nat):List Value:=(lC k).take i++List.replicate (4-i) (.int .i64 0)
theorem kk{fn:Func}{p:Tmp}{ty:TypeId}(h:fn.results= #[.cell p ty])(tmps:Array Value)(P:Program)(w:World):
  (results fn tmps).run P w=((asAddr (tmps.getD p undef)).run P w).andThen λa w₁=>(loadVar ty a).run P w₁:=by
 simp only[results,h];simp[Sem.run_bind,Result.andThen]
theorem Gl{fn:Func}{p:Tmp}{g:Nat}{a b c d:Int}{tmps:Array Value}(h:fn.results= #[.cell p 244])(hp:tmps.getD p undef=.pointer (some ⟨g,0,none⟩))(B:aD w g 244 #[.int .i64 a,.int .i64 b,.int .i64 c,.int .i64 d]):
  (results fn tmps).run Tryz.prog w=.ok (.agg #[.int .i64 a,.int .i64 b,.int .i64 c,.int .i64 d]) w:=by
 have c0:=B.ab (i:=0) rfl;have c1:=B.ab (i:=1) rfl;have c2:=B.ab (i:=2) rfl;have c3:=B.ab (i:=3) rfl;rw[kk h,hp];clear h hp B;go_simp
theorem kO(id:Nat)(h:id<=1023):
  Calls Tryz.prog 184 #[.int .i64 (id:Nat)] w λe w'=>e=.returned (.agg (lC (2+4*id)).toArray)/\Below w.heap.size w w':=by
 have e1:IntKind.i64.wrap ((id:Int)*4)=(id:Int)*4:=IntWalk.i64_in _ (by omega);have e2:IntKind.i64.wrap (2+(id:Int)*4)=2+(id:Int)*4:=IntWalk.i64_in _ (by omega);have Z:∀i:Nat,i<=3->IntKind.i64.wrap (2+(id:Int)*4+(i:Int))=2+(id:Int)*4+(i:Int):=λi hi=>IntWalk.i64_in _ (by omega);have y0:=Z 0 (by omega);have y1:=Z 1 (by omega);have y2:=Z 2 (by omega);have y3:=Z 3 (by omega);clear Z;have q0:Value.int .i64 (2+(id:Int)*4)= .int .i64 ((2+4*id:Nat):Int):=by congr 1;omega
 have q1:Value.int .i64 (2+(id:Int)*4+1)= .int .i64 (((2+4*id:Nat):Int)+1):=by congr 1;omega
 have q2:Value.int .i64 (2+(id:Int)*4+2)= .int .i64 (((2+4*id:Nat):Int)+2):=by congr 1;omega
 have q3:Value.int .i64 (2+(id:Int)*4+3)= .int .i64 (((2+4*id:Nat):Int)+3):=by congr 1;omega
 have Q:=xh (And.intro q0 (And.intro q1 (And.intro q2 q3)));clear q0 q1 q2 q3;have B0:=xh ((aD.new w 244 #[.int .i64 0,.int .i64 0,.int .i64 0,.int .i64 0]).alloc (.cells #[.int .i64 0,.int .i64 0,.int .i64 0,.int .i64 0] 244));have C0:=aD.new (w.alloc (.cells #[.int .i64 0,.int .i64 0,.int .i64 0,.int .i64 0] 244)) 244 #[.int .i64 0,.int .i64 0,.int .i64 0,.int .i64 0]
 rw[show(w.alloc (.cells #[.int .i64 0,.int .i64 0,.int .i64 0,.int .i64 0] 244)).heap.size=w.heap.size+1 from by simp]at C0;have C0:=xh C0;have O0:=xh (ae (ae (Below.refl w.heap.size w) (.cells #[.int .i64 0,.int .i64 0,.int .i64 0,.int .i64 0] 244)) (.cells #[.int .i64 0,.int .i64 0,.int .i64 0,.int .i64 0] 244));go_enter Tryz.func184,Tryz.ntmps184;go_wp2_with fail
 go_loopw [5] (λiv wr=> ∃i:Nat,i<=4/\iv=.int .i64 i/\Hid (aD wr (w.heap.size+1) 244 (j5 (2+4*id) i).toArray)/\Hid (aD wr w.heap.size 244 #[.int .i64 0,.int .i64 0,.int .i64 0,.int .i64 0])/\Hid (Below w.heap.size w wr)) (λiv _=>4-(intOf iv).toNat)
 case atStart=>exact⟨0,by omega,rfl,C0,B0,O0⟩
 case round=>
  obtain⟨i,hi,rfl,C,B,O⟩:=hrel;have ii:i=0\/i=1\/i=2\/i=3\/i=4:=by omega
  have z0:=C.o.frozen 0 (by rcases ii with rfl|rfl|rfl|rfl|rfl<;>simp[j5,lC]);have z1:=C.o.frozen 1 (by rcases ii with rfl|rfl|rfl|rfl|rfl<;>simp[j5,lC]);have z2:=C.o.frozen 2 (by rcases ii with rfl|rfl|rfl|rfl|rfl<;>simp[j5,lC]);have z3:=C.o.frozen 3 (by rcases ii with rfl|rfl|rfl|rfl|rfl<;>simp[j5,lC])
  rcases ii with rfl|rfl|rfl|rfl|rfl
  .have c0:=C.o.ab (i:=0) (v:= .int .i64 0) rfl;have C2:=xh (show aD (wr.setCell ⟨w.heap.size+1,0,none⟩ (.int .i64 (2+(id:Int)*4))) (w.heap.size+1) 244 (j5 (2+4*id) 1).toArray from by
    have h:=C.o.bu 0 (.int .i64 (2+(id:Int)*4));rw[Q.o.1]at h ⊢;exact h)
   have B2:=xh (B.o.aY (p:=⟨w.heap.size+1,0,none⟩) (by simp) (.int .i64 (2+(id:Int)*4)));have O2:=xh (O.o.setCell (p:=⟨w.heap.size+1,0,none⟩) (by simp) (.int .i64 (2+(id:Int)*4)));go_wp2_with fail;go_roundw
   case rel=>exact⟨1,by omega,by first|rfl|simp,C2,B2,O2⟩
   case measure=>first|decide|simp[intOf]
  .have c0:=C.o.ab (i:=1) (v:= .int .i64 0) rfl;have C2:=xh (show aD (wr.setCell ⟨w.heap.size+1,1,none⟩ (.int .i64 (2+(id:Int)*4+1))) (w.heap.size+1) 244 (j5 (2+4*id) 2).toArray from by
    have h:=C.o.bu 1 (.int .i64 (2+(id:Int)*4+1));rw[Q.o.2.1]at h ⊢;exact h)
   have B2:=xh (B.o.aY (p:=⟨w.heap.size+1,1,none⟩) (by simp) (.int .i64 (2+(id:Int)*4+1)));have O2:=xh (O.o.setCell (p:=⟨w.heap.size+1,1,none⟩) (by simp) (.int .i64 (2+(id:Int)*4+1)));go_wp2_with fail;go_roundw
   case rel=>exact⟨2,by omega,by first|rfl|simp,C2,B2,O2⟩
   case measure=>first|decide|simp[intOf]
  .have c0:=C.o.ab (i:=2) (v:= .int .i64 0) rfl;have C2:=xh (show aD (wr.setCell ⟨w.heap.size+1,2,none⟩ (.int .i64 (2+(id:Int)*4+2))) (w.heap.size+1) 244 (j5 (2+4*id) 3).toArray from by
    have h:=C.o.bu 2 (.int .i64 (2+(id:Int)*4+2));rw[Q.o.2.2.1]at h ⊢;exact h)
   have B2:=xh (B.o.aY (p:=⟨w.heap.size+1,2,none⟩) (by simp) (.int .i64 (2+(id:Int)*4+2)));have O2:=xh (O.o.setCell (p:=⟨w.heap.size+1,2,none⟩) (by simp) (.int .i64 (2+(id:Int)*4+2)));go_wp2_with fail;go_roundw
   case rel=>exact⟨3,by omega,by first|rfl|simp,C2,B2,O2⟩
   case measure=>first|decide|simp[intOf]
  .have c0:=C.o.ab (i:=3) (v:= .int .i64 0) rfl;have C2:=xh (show aD (wr.setCell ⟨w.heap.size+1,3,none⟩ (.int .i64 (2+(id:Int)*4+3))) (w.heap.size+1) 244 (j5 (2+4*id) 4).toArray from by
    have h:=C.o.bu 3 (.int .i64 (2+(id:Int)*4+3));rw[Q.o.2.2.2]at h ⊢;exact h)
   have B2:=xh (B.o.aY (p:=⟨w.heap.size+1,3,none⟩) (by simp) (.int .i64 (2+(id:Int)*4+3)));have O2:=xh (O.o.setCell (p:=⟨w.heap.size+1,3,none⟩) (by simp) (.int .i64 (2+(id:Int)*4+3)));go_wp2_with fail;go_roundw
   case rel=>exact⟨4,by omega,by first|rfl|simp,C2,B2,O2⟩
   case measure=>first|decide|simp[intOf]
  .have c0:=C.o.ab (i:=0) rfl;have c1:=C.o.ab (i:=1) rfl;have c2:=C.o.ab (i:=2) rfl;have c3:=C.o.ab (i:=3) rfl;have b0:=B.o.ab (i:=0) rfl;have b1:=B.o.ab (i:=1) rfl;have b2:=B.o.ab (i:=2) rfl;have b3:=B.o.ab (i:=3) rfl;have x0:=B.o.frozen 0 (by simp);have x1:=B.o.frozen 1 (by simp);have x2:=B.o.frozen 2 (by simp);have x3:=B.o.frozen 3 (by simp)
   have ZB:=xh ((((B.o.bu 0 (.int .i64 ((2+4*id:Nat):Int))).bu 1 (.int .i64 (((2+4*id:Nat):Int)+1))).bu 2 (.int .i64 (((2+4*id:Nat):Int)+2))).bu 3 (.int .i64 (((2+4*id:Nat):Int)+3)))
   have ZO:=xh ((((O.o.setCell (p:=⟨w.heap.size,0,none⟩) (ak _) (.int .i64 ((2+4*id:Nat):Int))).setCell (p:=⟨w.heap.size,1,none⟩) (ak _) (.int .i64 (((2+4*id:Nat):Int)+1))).setCell (p:=⟨w.heap.size,2,none⟩) (ak _) (.int .i64 (((2+4*id:Nat):Int)+2))).setCell (p:=⟨w.heap.size,3,none⟩) (ak _) (.int .i64 (((2+4*id:Nat):Int)+3)))
   simp only[j5,lC,eB,vQ,jy,bJ,il,vJ,ak,List.getElem_cons_zero,zW,List.getElem_toArray]at c0 c1 c2 c3;generalize hKK:((2+4*id:Nat):Int)=K at *;have HKK:=xh hKK;clear hKK;go_wp2_with fail;exact bodyPost_ret (Gl rfl rfl ZB.o) rfl ⟨by unfold lC;rw[HKK.o],ZO.o⟩
variable{d:D}{n:Nat}
theorem uy(d:D)(h:d.aT<=9223372036854775807):d.bE.1.calls=d.calls+1/\d.bE.1.aT<=9223372036854775807:=by
 unfold D.bE
 split
 .exact⟨rfl,h⟩
 .split
  .exact⟨rfl,by show(0:Int)<=_;omega⟩
  .exact⟨rfl,by show d.aT-1<=_;omega⟩
theorem rP(d:D)(i:Nat):(d.fc i).calls=d.calls/\(d.fc i).aT=d.aT:=by unfold D.fc;split<;>exact⟨rfl,rfl⟩
theorem im(d:D)(n:Nat)(i:Int)(s:List UInt8)(h:d.aT<=9223372036854775807):(d.ar n i s).1.calls<=d.calls+1/\(d.ar n i s).1.aT<=9223372036854775807:=by
 unfold D.ar
 split
 .have h1:(d.ct i.toNat s).calls=d.calls:=(rP d i.toNat).1;have h2:(d.ct i.toNat s).aT=d.aT:=(rP d i.toNat).2;have:=uy (d.ct i.toNat s) (by omega);omega
 .exact⟨by show d.calls<=_;omega,h⟩
def w4(d:D)(n k:Nat)(b:List UInt8):Nat->D×Int
 |0=>(d,0)
 |i+1=>if(w4 d n k b i).2=0 then(w4 d n k b i).1.ar n ((k:Int)+i) ((b.drop (64*i)).take 64)else w4 d n k b i
theorem Gm(d:D)(n k:Nat)(b:List UInt8)(i:Nat)(h:(w4 d n k b i).2=0):w4 d n k b (i+1)=(w4 d n k b i).1.ar n ((k:Int)+i) ((b.drop (64*i)).take 64):=by
 show(if _ then _ else _)=_;rw[if_pos h]
theorem CB(d:D)(n k:Nat)(b:List UInt8)(i j:Nat)(h:(w4 d n k b i).2≠0)(hj:i<=j):w4 d n k b j=w4 d n k b i:=by
 induction j with
 |zero=>rw[show i=0 by omega]
 |succ j ih=>
  by_cases e:i=j+1
  .rw[e]
  .have:=ih (by omega);show(if _ then _ else _)=_;rw[this,if_neg h]
theorem Gn(d:D)(n k:Nat)(b:List UInt8)(h:d.aT<=9223372036854775807):∀i,(w4 d n k b i).1.calls<=d.calls+i/\(w4 d n k b i).1.aT<=9223372036854775807
 |0=>⟨by simp[w4],h⟩
 |i+1=>by
  obtain⟨h1,h2⟩:=Gn d n k b h i;unfold w4
  split
  .have:=im (w4 d n k b i).1 n ((k:Int)+i) ((b.drop (64*i)).take 64) h2;omega
  .omega
theorem rQ(h:d.Ok n)(k:Nat)(b:List UInt8):∀i,(w4 d n k b i).1.Ok n
 |0=>h
 |i+1=>by
  unfold w4
  split
  .exact(rQ h k b i).write _ _
  .exact rQ h k b i
def aP(d:D)(n:Nat)(id ep kd:Int)(s:List UInt8):D×Int:=
 if(ct id ep kd s).2≠0 then(d,(ct id ep kd s).2)
 else if(bz n:Int)<=id then(d,3)
 else w4 d n (2+4*id.toNat) (ct id ep kd s).1 4
theorem uz(d:D)(n:Nat)(id ep kd:Int)(s:List UInt8)(h:d.aT<=9223372036854775807):(aP d n id ep kd s).1.calls<=d.calls+4/\(aP d n id ep kd s).1.aT<=9223372036854775807:=by
 unfold aP
 split
 .exact⟨by show d.calls<=_;omega,h⟩
 .split
  .exact⟨by show d.calls<=_;omega,h⟩
  .exact Gn d n _ _ h 4
theorem rR{id ep kd:Int}{s:List UInt8}(h:(ct id ep kd s).2=0):(ct id ep kd s).1.length=256/\Al id ep kd=true:=by
 unfold ct at h ⊢
 split at h
 .rename_i ef;rw[if_pos ef]
  split at h
  .simp at h
  .rename_i hs;rw[if_neg hs];have h1:(dh (iK id ep kd s) 252).length=252:=by
    have:(iK id ep kd s).length=20+s.length:=by unfold iK;simp[dv,kK];omega
    unfold dh;rw[aU,eM];omega
   refine⟨?_,ef⟩;show(hJ id ep kd s).length=256;unfold hJ gD.bA;rw[aU,h1];simp[gD.gk]
 .simp at h
theorem uA{w:World}{L:Dk.Loc}(h:aG w L n d)(id ep kd:Int)(s:ByteArray)(hid:id<=9223372036854775807)(he:(ct id ep kd s.data.toList).2≠0\/(bz n:Int)<=id):
  Calls Tryz.prog 225 #[dp L.b,fL id ep kd s] w λe w'=>e=.returned (.int .i64 (aP d n id ep kd s.data.toList).2)/\aG w' L n (aP d n id ep kd s.data.toList).1/\Below w.heap.size w w':=by
 have O0:=xh (ae (Below.refl w.heap.size w) (.cells #[.int .i64 id,.int .i64 ep,.int .i64 kd,.string s] 162));have B0:=xh (aD.new w 162 #[.int .i64 id,.int .i64 ep,.int .i64 kd,.string s]);have K:=xh (λw=>xK (w:=w) id ep kd s hid);have KM:=xh (λw' (hb:Below w.heap.size w w')=>ki (h.below hb));have HD:=xh h;have c0:=B0.o.ab (i:=0) rfl;have c1:=B0.o.ab (i:=1) rfl;have c2:=B0.o.ab (i:=2) rfl
 have c3:=B0.o.ab (i:=3) rfl;have uB:((ct id ep kd s.data.toList).2≠0/\aP d n id ep kd s.data.toList=(d,(ct id ep kd s.data.toList).2))\/((ct id ep kd s.data.toList).2=0/\(bz n:Int)<=id/\aP d n id ep kd s.data.toList=(d,3)):=by
  by_cases h1:(ct id ep kd s.data.toList).2=0
  .have h2:=he.resolve_left (λh=>h h1);right;refine⟨h1,h2,?_⟩;unfold aP;rw[if_neg (by simpa using h1),if_pos h2]
  .left;refine⟨h1,?_⟩;unfold aP;rw[if_pos h1]
 generalize (ct id ep kd s.data.toList).2=er at *;generalize (⟨(ct id ep kd s.data.toList).1.toArray⟩:ByteArray)=S at *;generalize aP d n id ep kd s.data.toList=R at *;generalize bz n=mn at *;clear h he;unfold fL dp at *
 rcases uB with⟨h1,h2⟩|⟨h1,h3,h2⟩
 .subst h2;have hb:(er != 0)=true:=by rw[bne_iff_ne];exact h1
  go_enter Tryz.func225,Tryz.ntmps225;go_wp2_with fail;refine(K.o _).mono ?_;rintro e w1 ⟨rfl,aL⟩;have O1:=xh (ao O0.o aL);clear aL;go_wp2_with fail;go_ret;exact⟨rfl,HD.o.below O1.o,O1.o⟩
 .subst h2;subst h1;go_enter Tryz.func225,Tryz.ntmps225;go_wp2_with fail;refine(K.o _).mono ?_;rintro e w1 ⟨rfl,aL⟩;have O1:=xh (ao O0.o aL);have B1:=xh (B0.o.below aL B0.o.lt);clear aL c0 c1 c2 c3;have c0:=B1.o.ab (i:=0) rfl;go_wp2_with fail;have KX:=xh (λm=>KM.o (w1.drewN m) (cB O1.o m));go_quiet ((go_at_call 136;exact rJ (KX.o _)));go_wp2_with fail;go_ret;exact⟨rfl,HD.o.below (cB O1.o _),cB O1.o _⟩
variable{w:World}{L:Dk.Loc}{n:Nat}{d:D}
theorem wh(a0 a1 a2 a3:Int)(w:World)(k:Nat)(x:Value)(hx: #[Value.int .i64 a0,.int .i64 a1,.int .i64 a2,.int .i64 a3][k]?=some x):
  (Instr.index 244 (.agg #[.int .i64 a0,.int .i64 a1,.int .i64 a2,.int .i64 a3]) (.int .i64 (k:Int))).run Tryz.prog w=.ok x w:=by
 have hu:Tryz.prog.underlying 244=some (.array 4 3):=by kernel_rfl
 have hm:(Tryz.prog.info? 3).map (·.size)=some 1:=by kernel_rfl
 have hp:Tryz.prog.plainKey 3=true:=by kernel_rfl
 have hk:k<4:=by
  rcases dZ k 4 with h|h
  .exact h
  .rw[Array.getElem?_eq_none (by simpa using h)]at hx;cases hx
 cases hq:Tryz.prog.info? 3 with
 |none=>simp[hq]at hm
 |some i=>
  simp only[hq,iZ,Option.some.injEq]at hm;have:=run_part_plain (P:=Tryz.prog) w hp hx;simp[Instr.index,asIntOf,run_underlying hu,hk,sizeOf,typeInfo,hq,hm];exact this
theorem Ao(h:aG w L n d)(id:Nat)(ep kd:Int)(s:ByteArray)(hp:(ct id ep kd s.data.toList).2=0)(hm:id<bz n)(hc:d.calls<=3999999999999999990)(hr:d.aT<=9223372036854775807):
  Calls Tryz.prog 225 #[dp L.b,fL id ep kd s] w λe w'=>e=.returned (.int .i64 (w4 d n (2+4*id) (ct id ep kd s.data.toList).1 4).2)/\aG w' L n (w4 d n (2+4*id) (ct id ep kd s.data.toList).1 4).1/\ag L.fp w w':=by
 have hn:=h.ok.small;have hmn:bz n<=1023:=by unfold bz;omega
 have O0:=xh (ae (Below.refl w.heap.size w) (.cells #[.int .i64 (id:Nat),.int .i64 ep,.int .i64 kd,.string s] 162));have B0:=xh (aD.new w 162 #[.int .i64 (id:Nat),.int .i64 ep,.int .i64 kd,.string s]);have K:=λw=>xK (w:=w) id ep kd s (by omega);have hlen:=(rR hp).1;rw[hp]at K;obtain⟨T,hT⟩:∃T:ByteArray,(⟨(ct id ep kd s.data.toList).1.toArray⟩:ByteArray)=T:=⟨_,rfl⟩;rw[hT]at K;have Cw:T.data.toList=(ct id ep kd s.data.toList).1:=by rw[<-hT]
 have hTs:T.size=256:=by rw[<-hT,fu,hlen]
 rw[<-Cw];have HX:=xh (show ∀i:Nat,(T.extract (64*i) (64*(i+1))).data.toList=(T.data.toList.drop (64*i)).take 64 from λi=>by rw[exl,show 64*(i+1)-64*i=64 by omega]);have K:=xh K;have KM:=xh (λw' (hb:Below w.heap.size w w')=>ki (h.below hb));have KS:=xh (λw=>kO (w:=w) id (by omega));have HB:=xh (Gn d n (2+4*id) T.data.toList hr);have H4:=xh (Gm d n (2+4*id) T.data.toList);have HS:=xh (CB d n (2+4*id) T.data.toList)
 have HC:=xh hc;have HD:=xh h;have hmI:¬((bz n:Nat):Int)<=(id:Int):=by omega
 have c0:=B0.o.ab (i:=0) rfl;have c1:=B0.o.ab (i:=1) rfl;have c2:=B0.o.ab (i:=2) rfl;have c3:=B0.o.ab (i:=3) rfl;generalize bz n=mn at *;clear h hp hT Cw hlen hc hr;unfold fL dp lC at *;generalize hk:2+4*id=k at *;clear hk;go_enter Tryz.func225,Tryz.ntmps225;go_wp2_with fail;refine(K.o _).mono ?_;rintro e w1 ⟨rfl,aL⟩;have O1:=xh (ao O0.o aL);have B1:=xh (B0.o.below aL B0.o.lt);clear aL c0 c1 c2 c3 K
 have c0:=B1.o.ab (i:=0) rfl;have KX:=xh (λm=>KM.o (w1.drewN m) (cB O1.o m));go_wp2_with fail;go_quiet ((go_at_call 136;exact rJ (KX.o _)));have O2:=xh (cB O1.o nq);have B2:=xh (B1.o.drewN nq);generalize hw2:w1.drewN nq=w2 at *;clear c0 O1 B1 hw2 KX KM;have c0:=B2.o.ab (i:=0) rfl;go_wp2_with fail;refine(KS.o _).mono ?_;rintro e w3 ⟨rfl,dR⟩;have O3:=xh (ao O2.o dR);have D3:=xh (HD.o.below O3.o)
 clear dR c0 KS O2 B2;go_wp2_with fail
 go_loopw [30] (λiv wr=> ∃i:Nat,i<=4/\iv=.int .i64 i/\Hid (aG wr L n (w4 d n k T.data.toList i).1)/\Hid ((w4 d n k T.data.toList i).2=0)/\Hid (ag L.fp w wr)) (λiv _=>4-(intOf iv).toNat)
 case atStart=>exact⟨0,by omega,rfl,D3,xh rfl,xh (.aj O3.o)⟩
 case round=>
  obtain⟨i,hi,rfl,DD,EZ,O⟩:=hrel;have ii:i=0\/i=1\/i=2\/i=3\/i=4:=by omega
  rcases ii with rfl|rfl|rfl|rfl|rfl
  .have bd:=HB.o 0;have KW:=jl DD.o ((k:Int)) (T.extract 0 64) (by have:=HC.o;omega) (by omega);have hx:=HX.o 0;have h4:=H4.o 0 EZ.o;rw[show(T.extract 0 64).data.toList=(T.data.toList.drop (64*0)).take 64 from hx,show((k:Int))=(k:Int)+((0:Nat):Int)from by omega,<-h4,show(k:Int)+((0:Nat):Int)=(k:Int)from by omega]at KW;have KW:=xh KW;clear hx h4 bd
   have IX:=xh (show(Instr.index 244 (.agg #[.int .i64 (k:Int),.int .i64 ((k:Int)+1),.int .i64 ((k:Int)+2),.int .i64 ((k:Int)+3)]) (.int .i64 0)).run Tryz.prog wr=.ok (.int .i64 ((k:Int))) wr from wh (k:Int) ((k:Int)+1) ((k:Int)+2) ((k:Int)+3) wr 0 _ rfl);go_wp2_with fail;rw[IX.o];go_wp2_with fail;refine KW.o.mono ?_;rintro e wz ⟨rfl,dd,oz⟩;have DZ:=xh dd;have OZ:=xh (O.o.trans oz);clear dd oz KW
   by_cases hz:(w4 d n k T.data.toList 1).2=0
   .have HZ:=xh hz;have hq:((w4 d n k T.data.toList 1).2 != 0)=false:=by rw[hz];rfl
    clear hz;go_wp2_with fail;go_roundw
    case rel=>exact⟨1,by omega,by first|rfl|simp,DZ,HZ,OZ⟩
    case measure=>first|decide|simp[intOf]
   .have hs:=HS.o 1 4 hz (by omega);have Gp:=xh hs;have hq:((w4 d n k T.data.toList 1).2 != 0)=true:=by rw[bne_iff_ne];exact hz
    clear hz hs;go_wp2_with fail;go_ret;exact⟨by first|rfl|(rw[Gp.o];rfl),by first|exact DZ.o|(rw[Gp.o];exact DZ.o),OZ.o⟩
  .have bd:=HB.o 1;have KW:=jl DD.o ((k:Int)+1) (T.extract 64 128) (by have:=HC.o;omega) (by omega);have hx:=HX.o 1;have h4:=H4.o 1 EZ.o;rw[show(T.extract 64 128).data.toList=(T.data.toList.drop (64*1)).take 64 from hx,show((k:Int)+1)=(k:Int)+((1:Nat):Int)from by omega,<-h4,show(k:Int)+((1:Nat):Int)=(k:Int)+1 from by omega]at KW;have KW:=xh KW;clear hx h4 bd
   have IX:=xh (show(Instr.index 244 (.agg #[.int .i64 (k:Int),.int .i64 ((k:Int)+1),.int .i64 ((k:Int)+2),.int .i64 ((k:Int)+3)]) (.int .i64 1)).run Tryz.prog wr=.ok (.int .i64 ((k:Int)+1)) wr from wh (k:Int) ((k:Int)+1) ((k:Int)+2) ((k:Int)+3) wr 1 _ rfl);go_wp2_with fail;rw[IX.o];go_wp2_with fail;refine KW.o.mono ?_;rintro e wz ⟨rfl,dd,oz⟩;have DZ:=xh dd;have OZ:=xh (O.o.trans oz);clear dd oz KW
   by_cases hz:(w4 d n k T.data.toList 2).2=0
   .have HZ:=xh hz;have hq:((w4 d n k T.data.toList 2).2 != 0)=false:=by rw[hz];rfl
    clear hz;go_wp2_with fail;go_roundw
    case rel=>exact⟨2,by omega,by first|rfl|simp,DZ,HZ,OZ⟩
    case measure=>first|decide|simp[intOf]
   .have hs:=HS.o 2 4 hz (by omega);have Gp:=xh hs;have hq:((w4 d n k T.data.toList 2).2 != 0)=true:=by rw[bne_iff_ne];exact hz
    clear hz hs;go_wp2_with fail;go_ret;exact⟨by first|rfl|(rw[Gp.o];rfl),by first|exact DZ.o|(rw[Gp.o];exact DZ.o),OZ.o⟩
  .have bd:=HB.o 2;have KW:=jl DD.o ((k:Int)+2) (T.extract 128 192) (by have:=HC.o;omega) (by omega);have hx:=HX.o 2;have h4:=H4.o 2 EZ.o;rw[show(T.extract 128 192).data.toList=(T.data.toList.drop (64*2)).take 64 from hx,show((k:Int)+2)=(k:Int)+((2:Nat):Int)from by omega,<-h4,show(k:Int)+((2:Nat):Int)=(k:Int)+2 from by omega]at KW;have KW:=xh KW;clear hx h4 bd
   have IX:=xh (show(Instr.index 244 (.agg #[.int .i64 (k:Int),.int .i64 ((k:Int)+1),.int .i64 ((k:Int)+2),.int .i64 ((k:Int)+3)]) (.int .i64 2)).run Tryz.prog wr=.ok (.int .i64 ((k:Int)+2)) wr from wh (k:Int) ((k:Int)+1) ((k:Int)+2) ((k:Int)+3) wr 2 _ rfl);go_wp2_with fail;rw[IX.o];go_wp2_with fail;refine KW.o.mono ?_;rintro e wz ⟨rfl,dd,oz⟩;have DZ:=xh dd;have OZ:=xh (O.o.trans oz);clear dd oz KW
   by_cases hz:(w4 d n k T.data.toList 3).2=0
   .have HZ:=xh hz;have hq:((w4 d n k T.data.toList 3).2 != 0)=false:=by rw[hz];rfl
    clear hz;go_wp2_with fail;go_roundw
    case rel=>exact⟨3,by omega,by first|rfl|simp,DZ,HZ,OZ⟩
    case measure=>first|decide|simp[intOf]
   .have hs:=HS.o 3 4 hz (by omega);have Gp:=xh hs;have hq:((w4 d n k T.data.toList 3).2 != 0)=true:=by rw[bne_iff_ne];exact hz
    clear hz hs;go_wp2_with fail;go_ret;exact⟨by first|rfl|(rw[Gp.o];rfl),by first|exact DZ.o|(rw[Gp.o];exact DZ.o),OZ.o⟩
  .have bd:=HB.o 3;have KW:=jl DD.o ((k:Int)+3) (T.extract 192 256) (by have:=HC.o;omega) (by omega);have hx:=HX.o 3;have h4:=H4.o 3 EZ.o;rw[show(T.extract 192 256).data.toList=(T.data.toList.drop (64*3)).take 64 from hx,show((k:Int)+3)=(k:Int)+((3:Nat):Int)from by omega,<-h4,show(k:Int)+((3:Nat):Int)=(k:Int)+3 from by omega]at KW;have KW:=xh KW;clear hx h4 bd
   have IX:=xh (show(Instr.index 244 (.agg #[.int .i64 (k:Int),.int .i64 ((k:Int)+1),.int .i64 ((k:Int)+2),.int .i64 ((k:Int)+3)]) (.int .i64 3)).run Tryz.prog wr=.ok (.int .i64 ((k:Int)+3)) wr from wh (k:Int) ((k:Int)+1) ((k:Int)+2) ((k:Int)+3) wr 3 _ rfl);go_wp2_with fail;rw[IX.o];go_wp2_with fail;refine KW.o.mono ?_;rintro e wz ⟨rfl,dd,oz⟩;have DZ:=xh dd;have OZ:=xh (O.o.trans oz);clear dd oz KW
   by_cases hz:(w4 d n k T.data.toList 4).2=0
   .have HZ:=xh hz;have hq:((w4 d n k T.data.toList 4).2 != 0)=false:=by rw[hz];rfl
    clear hz;go_wp2_with fail;go_roundw
    case rel=>exact⟨4,by omega,by first|rfl|simp,DZ,HZ,OZ⟩
    case measure=>first|decide|simp[intOf]
   .have hs:=HS.o 4 4 hz (by omega);have Gp:=xh hs;have hq:((w4 d n k T.data.toList 4).2 != 0)=true:=by rw[bne_iff_ne];exact hz
    clear hz hs;go_wp2_with fail;go_ret;exact⟨by first|rfl|(rw[Gp.o];rfl),by first|exact DZ.o|(rw[Gp.o];exact DZ.o),OZ.o⟩
  .go_wp2_with fail;go_ret;exact⟨by rw[EZ.o];rfl,DD.o,O.o⟩
theorem Ap(h:aG w L n d)(id ep kd:Int)(s:ByteArray)(hid:id<=9223372036854775807)(hc:d.calls<=3999999999999999990)(hr:d.aT<=9223372036854775807):
  Calls Tryz.prog 225 #[dp L.b,fL id ep kd s] w λe w'=>e=.returned (.int .i64 (aP d n id ep kd s.data.toList).2)/\aG w' L n (aP d n id ep kd s.data.toList).1/\ag L.fp w w':=by
 by_cases hp:(ct id ep kd s.data.toList).2=0
 .by_cases hm:(bz n:Int)<=id
  .exact(uA h id ep kd s hid (.inr hm)).mono λe w' hx=>⟨hx.1,hx.2.1,.aj hx.2.2⟩
  .have ef:=(lZ id ep kd).1 (rR hp).2;obtain⟨a,rfl⟩:=dn ef.1;have e1:aP d n a ep kd s.data.toList=w4 d n (2+4*a) (ct a ep kd s.data.toList).1 4:=by
    unfold aP;rw[if_neg (by simpa using hp),if_neg hm];rfl
   rw[e1];exact Ao h a ep kd s hp (by omega) hc hr
 .exact(uA h id ep kd s hid (.inl hp)).mono λe w' hx=>⟨hx.1,hx.2.1,.aj hx.2.2⟩
end Go.Proofs.YtmonobkginiajaaGreat.Pg
namespace Go.Proofs.YtmonobkginiajaaGreat.Pg
open Go.RowKit Pk Dk
attribute [local go_sem ↓] Go.wp_at_zero Go.wp_at_succ pe
variable{w:World}{L:Dk.Loc}{n:Nat}{d:D}
def bj(d:D)(n:Nat)(id:Int):PG×Int:=
 if id<0\/(bz n:Int)<=id then(.zero,3)
 else if d.down=true then(.zero,13)
 else if(gf ((d.now.drop (64*(2+4*id.toNat))).take 256)).2≠0 then(.zero,(gf ((d.now.drop (64*(2+4*id.toNat))).take 256)).2)
 else if(gf ((d.now.drop (64*(2+4*id.toNat))).take 256)).1.id≠id then(.zero,14)
 else((gf ((d.now.drop (64*(2+4*id.toNat))).take 256)).1,0)
theorem lD(F:List UInt8)(k i:Nat):(F.drop (64*k)).take (64*(i+1))=(F.drop (64*k)).take (64*i)++sec F (k+i):=by
 unfold sec;rw[show 64*(i+1)=64*i+64 by omega,List.take_add,fY,show 64*k+64*i=64*(k+i) by omega]
theorem wi(d:D)(n:Nat)(k:Nat)(h:k<n):d.gh n k=if d.down=true then 13 else 0:=by
 unfold D.gh;rw[if_pos (show 0<=(k:Int)/\(k:Int)<n by omega)]
theorem Aq(d:D)(n:Nat)(k:Nat)(h:k<n)(hd:d.down=true):d.aA n k=([],13):=by
 unfold D.aA;rw[wi d n k h,if_pos hd];rfl
theorem Gq(d:D)(n:Nat)(k:Nat)(h:k<n)(hd:d.down=false):d.aA n k=(sec d.now k,0):=by
 unfold D.aA;rw[wi d n k h];simp[hd]
theorem DL(b:Nat)(id:Int)(h:id<0):
  Calls Tryz.prog 139 #[dp b,.int .i64 id] w λe w'=>e=.returned (.tuple #[PG.zero.val,.int .i64 3])/\Below w.heap.size w w':=by
 have B0:=xh (aD.new w 162 e9);have O0:=xh (ae (Below.refl w.heap.size w) (.cells e9 162));unfold dp;go_enter Tryz.func139,Tryz.ntmps139;go_wp2_with fail;exact bodyPost_ret (cG rfl rfl B0.o) rfl ⟨rfl,O0.o⟩
theorem DM(hd:aG w L n d)(id:Int)(h0:0<=id)(h:(bz n:Int)<=id):
  Calls Tryz.prog 139 #[dp L.b,.int .i64 id] w λe w'=>e=.returned (.tuple #[PG.zero.val,.int .i64 3])/\Below w.heap.size w w':=by
 have B0:=xh (aD.new w 162 e9);have O0:=ae (Below.refl w.heap.size w) (.cells e9 162);have K:=xh (ki (hd.below O0));have O0:=xh O0;have h1:¬id<0:=by omega
 clear hd;have z0:=B0.o.frozen 0 (by simp);have z1:=B0.o.frozen 1 (by simp);have z2:=B0.o.frozen 2 (by simp);have z3:=B0.o.frozen 3 (by simp);have c0:=B0.o.ab (i:=0) rfl;have c1:=B0.o.ab (i:=1) rfl;have c2:=B0.o.ab (i:=2) rfl;have c3:=B0.o.ab (i:=3) rfl;have ZB:=xh (kL B0.o rfl 0 0 0 ⟨#[]⟩);have ZO:=xh (dJ O0.o (ak _) 0 0 0 ⟨#[]⟩);unfold dp at *;go_enter Tryz.func139,Tryz.ntmps139;go_wp2_with fail
 refine K.o.mono ?_;rintro e w1 ⟨rfl,rfl⟩;go_wp2_with fail;exact bodyPost_ret (cG rfl rfl B0.o) rfl ⟨rfl,O0.o⟩
theorem Ar(hd:aG w L n d)(id:Nat)(h:id<bz n)(hdn:d.down=true):
  Calls Tryz.prog 139 #[dp L.b,.int .i64 (id:Nat)] w λe w'=>e=.returned (.tuple #[PG.zero.val,.int .i64 13])/\Below w.heap.size w w':=by
 have hn:=hd.ok.small;have hmn:bz n<=1023:=by unfold bz;omega
 have ub:2+4*id<n:=by unfold bz at h;omega
 have B0:=xh (aD.new w 162 e9);have O0:=ae (Below.refl w.heap.size w) (.cells e9 162);have K:=xh (ki (hd.below O0));have O0:=xh O0;have KS:=xh (λw=>kO (w:=w) id (by omega));have KR:=λw' (hb:Below w.heap.size w w')=>kh (hd.below hb) ((2+4*id:Nat):Int);rw[Aq d n _ ub hdn]at KR;have KR:=xh KR;have h1:¬((id:Nat):Int)<0:=by omega
 have h2:¬((bz n:Nat):Int)<=(id:Int):=by omega
 clear hd;generalize bz n=mn at *;generalize 2+4*id=k at *;unfold dp lC at *;go_enter Tryz.func139,Tryz.ntmps139;go_wp2_with fail;refine K.o.mono ?_;rintro e w1 ⟨rfl,rfl⟩;go_wp2_with fail;refine(KS.o _).mono ?_;rintro e w2 ⟨rfl,bK⟩;have O2:=xh (ao O0.o bK);have B2:=xh (B0.o.below bK B0.o.lt);clear bK;have z0:=B2.o.frozen 0 (by simp);have z1:=B2.o.frozen 1 (by simp);have z2:=B2.o.frozen 2 (by simp);have z3:=B2.o.frozen 3 (by simp)
 have c0:=B2.o.ab (i:=0) rfl;have c1:=B2.o.ab (i:=1) rfl;have c2:=B2.o.ab (i:=2) rfl;have c3:=B2.o.ab (i:=3) rfl;have ZB:=xh (kL B2.o rfl 0 0 0 ⟨#[]⟩);have ZO:=xh (dJ O2.o (ak _) 0 0 0 ⟨#[]⟩)
 have IX:=xh (show(Instr.index 244 (.agg #[.int .i64 (k:Int),.int .i64 ((k:Int)+1),.int .i64 ((k:Int)+2),.int .i64 ((k:Int)+3)]) (.int .i64 0)).run Tryz.prog w2=.ok (.int .i64 (k:Int)) w2 from wh (k:Int) ((k:Int)+1) ((k:Int)+2) ((k:Int)+3) w2 0 _ rfl);go_wp2_with fail
 go_loopw [6,29] (λbv iv wr=>bv=.slice none 0 0/\iv=.int .i64 0/\wr=w2) (λ_ _ _=>0)
 case atStart=>exact⟨rfl,rfl,rfl⟩
 case round=>
  obtain⟨rfl,rfl,rfl⟩:=hrel;go_wp2_with fail;rw[IX.o];go_wp2_with fail;refine(KR.o _ O2.o).mono ?_;rintro e w3 ⟨rfl,rfl⟩;go_wp2_with fail;exact bodyPost_ret (cG rfl rfl ZB.o) rfl ⟨rfl,ZO.o⟩
theorem Gr(hd:aG w L n d)(id:Nat)(h:id<bz n)(hdn:d.down=false):
  Calls Tryz.prog 139 #[dp L.b,.int .i64 (id:Nat)] w λe w'=>e=.returned (.tuple #[(bj d n id).1.val,.int .i64 (bj d n id).2])/\Below w.heap.size w w':=by
 have hn:=hd.ok.small;have hnow:=hd.ok.now;have hmn:bz n<=1023:=by unfold bz;omega
 have ub:2+4*id+3<n:=by unfold bz at h;omega
 have B0:=xh (aD.new w 162 e9);have O0:=ae (Below.refl w.heap.size w) (.cells e9 162);have K:=xh (ki (hd.below O0));have O0:=xh O0;have KS:=xh (λw=>kO (w:=w) id (by omega));have KR:=λi (hi:i<=3) w' (hb:Below w.heap.size w w')=>by
  have h:=kh (hd.below hb) ((2+4*id+i:Nat):Int);rw[Gq d n _ (by omega) hdn]at h;exact h
 have KR:=xh KR;obtain⟨l,hl⟩:∃l,(d.now.drop (64*(2+4*id))).take 256=l:=⟨_,rfl⟩;have hres:bj d n id=if(gf l).2≠0 then(.zero,(gf l).2)else if(gf l).1.id≠(id:Int)then(.zero,14)else((gf l).1,0):=by
  unfold bj;rw[if_neg (by omega),if_neg (by simp[hdn]),show((id:Nat):Int).toNat=id from by omega,hl]
 generalize bj d n id=R at *;have HR:=xh hres;have DN:=xh (show((d.now.drop (64*(2+4*id))).take 256).length=256 from by rw[cE,dg];omega);have HNX:=xh (lD d.now (2+4*id));have HL:=xh hl;have KG:=xh (λw=>Ge (w:=w) ⟨l.toArray⟩);have HLN:=xh (show ∀i,i<=4->((d.now.drop (64*(2+4*id))).take (64*i)).length=64*i from λi hi=>by rw[cE,dg];omega)
 have HSZ:=xh (show ∀i,i<=3->(sec d.now (2+4*id+i)).length=64 from λi hi=>jA hnow (by omega));have h1:¬((id:Nat):Int)<0:=by omega
 have h2:¬((bz n:Nat):Int)<=(id:Int):=by omega
 clear hd hl hres hnow;generalize bz n=mn at *;generalize 2+4*id=k at *;unfold dp lC at *;go_enter Tryz.func139,Tryz.ntmps139;go_wp2_with fail;refine K.o.mono ?_;rintro e w1 ⟨rfl,rfl⟩;go_wp2_with fail;refine(KS.o _).mono ?_;rintro e w2 ⟨rfl,bK⟩;have O2:=xh (ao O0.o bK);have B2:=xh (B0.o.below bK B0.o.lt);have y2:=B2.o.lt;clear bK B0 O0 K KS;go_wp2_with fail
 go_loopw [6,29] (λbv iv wr=> ∃i:Nat,i<=4/\iv=.int .i64 i/\aQ wr 5 1 bv (64*i) (cf ((d.now.drop (64*k)).take (64*i)))/\Hid (Below w.heap.size w wr)/\Hid (Below w2.heap.size w2 wr)/\Hid (∀g∈ah bv,w2.heap.size<=g)) (λ_ iv _=>4-(intOf iv).toNat)
 case atStart=>exact⟨0,by omega,rfl,by rw[qY,gJ];exact aQ.nil _ _ _,O2,xh (Below.refl _ _),xh (by simp[ah])⟩
 case round=>
  obtain⟨i,hi,rfl,S,O,OB,F⟩:=hrel;have ii:i=0\/i=1\/i=2\/i=3\/i=4:=by omega
  rcases ii with rfl|rfl|rfl|rfl|rfl
  .have hr:=KR.o 0 (by omega) _ O.o;rw[show((k+0:Nat):Int)=(k:Int)from by omega]at hr;have Gs:=xh hr;have S:aQ wr 5 1 _ 0 (cf ((d.now.drop (64*k)).take 0)):=S;obtain⟨V1,nr,rfl⟩:=aq S;obtain⟨U,hU⟩:∃U:ByteArray,(⟨(sec d.now (k+0)).toArray⟩:ByteArray)=U:=⟨_,rfl⟩;rw[hU]at Gs;have xJ:U.data.toList=sec d.now (k+0):=by rw[<-hU]
   have Fv:U.size=64:=by rw[<-hU,fu];exact HSZ.o 0 (by omega)
   obtain⟨v2,w4,ea,S2,ow,fr⟩:=ft (P:=Tryz.prog) S 150 9 150 Tryz.underlying150 Tryz.underlying9 gD.cM U (by rw[Fv];omega);obtain⟨V2,fs,rfl⟩:=aq S2;rw[Fv]at ea S2 fr;have EA:=xh (show lz Tryz.prog 150 9 150 wr (.slice V1 0 nr) (.string U)= .ok (.slice V2 64 fs) w4 from ea);have SX:=xh (show aQ w4 5 1 (.slice V2 64 fs) (64*1) (cf ((d.now.drop (64*k)).take (64*1)))from by
    have hn:=HNX.o 0;rw[show 64*(0+1)=64*1 from rfl,<-xJ]at hn;rw[hn,bD];exact S2)
   have OX:=xh (O.o.trans (ow.aE O.o.size (λg hg=>au O2.o.size (F.o g hg))));have OBX:=xh (OB.o.trans (ow.aE OB.o.size F.o));have FX:=xh (show ∀g∈ah (.slice V2 64 fs),w2.heap.size<=g from λg hg=>(fr g hg).elim (F.o g) (λh=>au OB.o.size h))
   have IX:=xh (show(Instr.index 244 (.agg #[.int .i64 (k:Int),.int .i64 ((k:Int)+1),.int .i64 ((k:Int)+2),.int .i64 ((k:Int)+3)]) (.int .i64 0)).run Tryz.prog wr=.ok (.int .i64 ((k:Int))) wr from wh (k:Int) ((k:Int)+1) ((k:Int)+2) ((k:Int)+3) wr 0 _ rfl);clear hr ea S2 ow fr S hU xJ;go_wp2_with fail;rw[IX.o];go_wp2_with fail;refine Gs.o.mono ?_;rintro e wz ⟨rfl,rfl⟩;go_wp2_with fail;rw[EA.o];go_wp2_with fail;go_roundw
   case rel=>exact⟨1,by omega,by first|rfl|simp,SX.o,OX,OBX,FX⟩
   case measure=>first|decide|simp[intOf]
  .have hr:=KR.o 1 (by omega) _ O.o;rw[show((k+1:Nat):Int)=(k:Int)+1 from by omega]at hr;have Gs:=xh hr;have S:aQ wr 5 1 _ 64 (cf ((d.now.drop (64*k)).take 64)):=S;obtain⟨V1,nr,rfl⟩:=aq S;obtain⟨U,hU⟩:∃U:ByteArray,(⟨(sec d.now (k+1)).toArray⟩:ByteArray)=U:=⟨_,rfl⟩;rw[hU]at Gs;have xJ:U.data.toList=sec d.now (k+1):=by rw[<-hU]
   have Fv:U.size=64:=by rw[<-hU,fu];exact HSZ.o 1 (by omega)
   obtain⟨v2,w4,ea,S2,ow,fr⟩:=ft (P:=Tryz.prog) S 150 9 150 Tryz.underlying150 Tryz.underlying9 gD.cM U (by rw[Fv];omega);obtain⟨V2,fs,rfl⟩:=aq S2;rw[Fv]at ea S2 fr;have EA:=xh (show lz Tryz.prog 150 9 150 wr (.slice V1 64 nr) (.string U)= .ok (.slice V2 128 fs) w4 from ea);have SX:=xh (show aQ w4 5 1 (.slice V2 128 fs) (64*2) (cf ((d.now.drop (64*k)).take (64*2)))from by
    have hn:=HNX.o 1;rw[show 64*(1+1)=64*2 from rfl,<-xJ]at hn;rw[hn,bD];exact S2)
   have OX:=xh (O.o.trans (ow.aE O.o.size (λg hg=>au O2.o.size (F.o g hg))));have OBX:=xh (OB.o.trans (ow.aE OB.o.size F.o));have FX:=xh (show ∀g∈ah (.slice V2 128 fs),w2.heap.size<=g from λg hg=>(fr g hg).elim (F.o g) (λh=>au OB.o.size h))
   have IX:=xh (show(Instr.index 244 (.agg #[.int .i64 (k:Int),.int .i64 ((k:Int)+1),.int .i64 ((k:Int)+2),.int .i64 ((k:Int)+3)]) (.int .i64 1)).run Tryz.prog wr=.ok (.int .i64 ((k:Int)+1)) wr from wh (k:Int) ((k:Int)+1) ((k:Int)+2) ((k:Int)+3) wr 1 _ rfl);clear hr ea S2 ow fr S hU xJ;go_wp2_with fail;rw[IX.o];go_wp2_with fail;refine Gs.o.mono ?_;rintro e wz ⟨rfl,rfl⟩;go_wp2_with fail;rw[EA.o];go_wp2_with fail;go_roundw
   case rel=>exact⟨2,by omega,by first|rfl|simp,SX.o,OX,OBX,FX⟩
   case measure=>first|decide|simp[intOf]
  .have hr:=KR.o 2 (by omega) _ O.o;rw[show((k+2:Nat):Int)=(k:Int)+2 from by omega]at hr;have Gs:=xh hr;have S:aQ wr 5 1 _ 128 (cf ((d.now.drop (64*k)).take 128)):=S;obtain⟨V1,nr,rfl⟩:=aq S;obtain⟨U,hU⟩:∃U:ByteArray,(⟨(sec d.now (k+2)).toArray⟩:ByteArray)=U:=⟨_,rfl⟩;rw[hU]at Gs;have xJ:U.data.toList=sec d.now (k+2):=by rw[<-hU]
   have Fv:U.size=64:=by rw[<-hU,fu];exact HSZ.o 2 (by omega)
   obtain⟨v2,w4,ea,S2,ow,fr⟩:=ft (P:=Tryz.prog) S 150 9 150 Tryz.underlying150 Tryz.underlying9 gD.cM U (by rw[Fv];omega);obtain⟨V2,fs,rfl⟩:=aq S2;rw[Fv]at ea S2 fr;have EA:=xh (show lz Tryz.prog 150 9 150 wr (.slice V1 128 nr) (.string U)= .ok (.slice V2 192 fs) w4 from ea);have SX:=xh (show aQ w4 5 1 (.slice V2 192 fs) (64*3) (cf ((d.now.drop (64*k)).take (64*3)))from by
    have hn:=HNX.o 2;rw[show 64*(2+1)=64*3 from rfl,<-xJ]at hn;rw[hn,bD];exact S2)
   have OX:=xh (O.o.trans (ow.aE O.o.size (λg hg=>au O2.o.size (F.o g hg))));have OBX:=xh (OB.o.trans (ow.aE OB.o.size F.o));have FX:=xh (show ∀g∈ah (.slice V2 192 fs),w2.heap.size<=g from λg hg=>(fr g hg).elim (F.o g) (λh=>au OB.o.size h))
   have IX:=xh (show(Instr.index 244 (.agg #[.int .i64 (k:Int),.int .i64 ((k:Int)+1),.int .i64 ((k:Int)+2),.int .i64 ((k:Int)+3)]) (.int .i64 2)).run Tryz.prog wr=.ok (.int .i64 ((k:Int)+2)) wr from wh (k:Int) ((k:Int)+1) ((k:Int)+2) ((k:Int)+3) wr 2 _ rfl);clear hr ea S2 ow fr S hU xJ;go_wp2_with fail;rw[IX.o];go_wp2_with fail;refine Gs.o.mono ?_;rintro e wz ⟨rfl,rfl⟩;go_wp2_with fail;rw[EA.o];go_wp2_with fail;go_roundw
   case rel=>exact⟨3,by omega,by first|rfl|simp,SX.o,OX,OBX,FX⟩
   case measure=>first|decide|simp[intOf]
  .have hr:=KR.o 3 (by omega) _ O.o;rw[show((k+3:Nat):Int)=(k:Int)+3 from by omega]at hr;have Gs:=xh hr;have S:aQ wr 5 1 _ 192 (cf ((d.now.drop (64*k)).take 192)):=S;obtain⟨V1,nr,rfl⟩:=aq S;obtain⟨U,hU⟩:∃U:ByteArray,(⟨(sec d.now (k+3)).toArray⟩:ByteArray)=U:=⟨_,rfl⟩;rw[hU]at Gs;have xJ:U.data.toList=sec d.now (k+3):=by rw[<-hU]
   have Fv:U.size=64:=by rw[<-hU,fu];exact HSZ.o 3 (by omega)
   obtain⟨v2,w4,ea,S2,ow,fr⟩:=ft (P:=Tryz.prog) S 150 9 150 Tryz.underlying150 Tryz.underlying9 gD.cM U (by rw[Fv];omega);obtain⟨V2,fs,rfl⟩:=aq S2;rw[Fv]at ea S2 fr;have EA:=xh (show lz Tryz.prog 150 9 150 wr (.slice V1 192 nr) (.string U)= .ok (.slice V2 256 fs) w4 from ea);have SX:=xh (show aQ w4 5 1 (.slice V2 256 fs) (64*4) (cf ((d.now.drop (64*k)).take (64*4)))from by
    have hn:=HNX.o 3;rw[show 64*(3+1)=64*4 from rfl,<-xJ]at hn;rw[hn,bD];exact S2)
   have OX:=xh (O.o.trans (ow.aE O.o.size (λg hg=>au O2.o.size (F.o g hg))));have OBX:=xh (OB.o.trans (ow.aE OB.o.size F.o));have FX:=xh (show ∀g∈ah (.slice V2 256 fs),w2.heap.size<=g from λg hg=>(fr g hg).elim (F.o g) (λh=>au OB.o.size h))
   have IX:=xh (show(Instr.index 244 (.agg #[.int .i64 (k:Int),.int .i64 ((k:Int)+1),.int .i64 ((k:Int)+2),.int .i64 ((k:Int)+3)]) (.int .i64 3)).run Tryz.prog wr=.ok (.int .i64 ((k:Int)+3)) wr from wh (k:Int) ((k:Int)+1) ((k:Int)+2) ((k:Int)+3) wr 3 _ rfl);clear hr ea S2 ow fr S hU xJ;go_wp2_with fail;rw[IX.o];go_wp2_with fail;refine Gs.o.mono ?_;rintro e wz ⟨rfl,rfl⟩;go_wp2_with fail;rw[EA.o];go_wp2_with fail;go_roundw
   case rel=>exact⟨4,by omega,by first|rfl|simp,SX.o,OX,OBX,FX⟩
   case measure=>first|decide|simp[intOf]
  .have ST:=xh (ra (P:=Tryz.prog) S 150 9 Tryz.underlying150 Tryz.underlying5 Tryz.underlying9);rw[show 64*4=256 from rfl,HL.o]at ST;obtain⟨VA,vc,rfl⟩:=aq S;have B3:=xh (B2.o.below OB.o y2);clear S;go_wp2_with fail;rw[ST.o];go_wp2_with fail;refine(KG.o _).mono ?_;rintro e w5 ⟨rfl,nt⟩;obtain⟨P,hP⟩:∃P,(gf l).1=P:=⟨_,rfl⟩;obtain⟨er,her⟩:∃er,(gf l).2=er:=⟨_,rfl⟩;have GP:=xh (And.intro hP her);rw[hP,her];clear hP her;obtain⟨pid,pep,pkd,ps⟩:=P
   have O6:=xh (ae (ao O.o nt) (.cells #[.int .i64 pid,.int .i64 pep,.int .i64 pkd,.string ⟨ps.toArray⟩] 162));have B6:=xh ((B3.o.below nt B3.o.lt).alloc (.cells #[.int .i64 pid,.int .i64 pep,.int .i64 pkd,.string ⟨ps.toArray⟩] 162));have P6:=xh (aD.new w5 162 #[.int .i64 pid,.int .i64 pep,.int .i64 pkd,.string ⟨ps.toArray⟩]);clear nt B3;unfold PG.val fL;dsimp only;have z0:=B6.o.frozen 0 (by simp);have z1:=B6.o.frozen 1 (by simp)
   have z2:=B6.o.frozen 2 (by simp);have z3:=B6.o.frozen 3 (by simp);have c0:=B6.o.ab (i:=0) rfl;have c1:=B6.o.ab (i:=1) rfl;have c2:=B6.o.ab (i:=2) rfl;have c3:=B6.o.ab (i:=3) rfl;have p0:=P6.o.ab (i:=0) rfl;have p1:=P6.o.ab (i:=1) rfl;have p2:=P6.o.ab (i:=2) rfl;have p3:=P6.o.ab (i:=3) rfl;have ZB:=xh (kL B6.o rfl 0 0 0 ⟨#[]⟩);have ZO:=xh (dJ O6.o (ak _) 0 0 0 ⟨#[]⟩)
   have YB:=xh (kL B6.o rfl pid pep pkd ⟨ps.toArray⟩);have YO:=xh (dJ O6.o (ak _) pid pep pkd ⟨ps.toArray⟩)
   by_cases her:er=0
   .subst her
    by_cases hpi:pid=id
    .have hq:(pid != (id:Int))=false:=by rw[bne_eq_false_iff_eq];exact hpi
     have RES:=xh (show(if(gf l).2≠0 then(PG.zero,(gf l).2)else if(gf l).1.id≠(id:Int)then(PG.zero,14)else((gf l).1,0))=(⟨pid,pep,pkd,ps⟩,0)from by
      rw[GP.o.1,GP.o.2];simp[hpi])
     clear hpi;go_wp2_with fail;exact bodyPost_ret (cG rfl rfl YB.o) rfl ⟨by rw[HR.o.trans RES.o];rfl,YO.o⟩
    .have hq:(pid != (id:Int))=true:=by rw[bne_iff_ne];exact hpi
     have RES:=xh (show(if(gf l).2≠0 then(PG.zero,(gf l).2)else if(gf l).1.id≠(id:Int)then(PG.zero,14)else((gf l).1,0))=(PG.zero,14)from by
      rw[GP.o.1,GP.o.2];simp[hpi])
     clear hpi;go_wp2_with fail;exact bodyPost_ret (cG rfl rfl ZB.o) rfl ⟨by rw[HR.o.trans RES.o];rfl,ZO.o⟩
   .have hq:(er != 0)=true:=by rw[bne_iff_ne];exact her
    have RES:=xh (show(if(gf l).2≠0 then(PG.zero,(gf l).2)else if(gf l).1.id≠(id:Int)then(PG.zero,14)else((gf l).1,0))=(PG.zero,er)from by
     rw[GP.o.1,GP.o.2,if_pos her])
    clear her;go_wp2_with fail;exact bodyPost_ret (cG rfl rfl ZB.o) rfl ⟨by rw[HR.o.trans RES.o];rfl,ZO.o⟩
theorem DO(hd:aG w L n d)(id:Int):
  Calls Tryz.prog 139 #[dp L.b,.int .i64 id] w λe w'=>e=.returned (.tuple #[(bj d n id).1.val,.int .i64 (bj d n id).2])/\Below w.heap.size w w':=by
 by_cases h0:id<0
 .have:bj d n id=(.zero,3):=by unfold bj;rw[if_pos (.inl h0)]
  rw[this];exact DL L.b id h0
 .by_cases h1:(bz n:Int)<=id
  .have:bj d n id=(.zero,3):=by unfold bj;rw[if_pos (.inr h1)]
   rw[this];exact DM hd id (by omega) h1
  .obtain⟨a,rfl⟩:=dn (show 0<=id by omega)
   cases hdn:d.down
   .exact Gr hd a (by omega) hdn
   .have:bj d n a=(.zero,13):=by unfold bj;rw[if_neg (by omega),if_pos hdn]
    rw[this];exact Ar hd a (by omega) hdn
end Go.Proofs.YtmonobkginiajaaGreat.Pg
namespace Go.Proofs.YtmonobkginiajaaGreat.Pg
open Go.RowKit Pk Dk
variable{d:D}{n k:Nat}
theorem beN_be8(N:Nat)(h:N<18446744073709551616):k7 (qF N)=N:=by
 have e:qF N=[UInt8.ofNat (N / 72057594037927936),UInt8.ofNat (N / 281474976710656),UInt8.ofNat (N / 1099511627776),UInt8.ofNat (N / 4294967296),UInt8.ofNat (N / 16777216),UInt8.ofNat (N / 65536),UInt8.ofNat (N / 256),UInt8.ofNat (N / 1)]:=rfl;rw[e];simp only[k7,zT,List.foldl_nil,fV];omega
theorem pk(n:Int)(h0:0<=n)(h1:n<=9223372036854775807):(k7 (cF n):Int)-9223372036854775808=n:=by
 unfold cF;rw[beN_be8 _ (by omega)];omega
theorem beN_kd(N:Nat)(h:N<=2147483647):k7 ((qF N).drop 4)=N:=by
 rw[Gc];simp only[k7,zT,List.foldl_nil,fV];omega
theorem nR{α}(a b:List α)(n:Nat)(h:a.length=n):(a++b).take n=a:=by rw[lU (by omega),bJ (by omega)]
theorem nS{α}(a b:List α)(n:Nat)(h:a.length=n):(a++b).drop n=b:=by rw[<-h];exact mM
theorem uC(id ep kd:Int)(s:List UInt8)(h:s.length<=232):dh (iK id ep kd s) 252=cF id++(cF ep++((qF kd.toNat).drop 4++dh s 232)):=by
 rw[<-Gd id ep kd s h];simp only[cN]
theorem DP{id ep kd:Int}{s:List UInt8}(ef:Al id ep kd=true)(hid:id<=9223372036854775807)(hs:s.length<=232):
  gf (hJ id ep kd s)=(⟨id,ep,kd,dh s 232⟩,0):=by
 have hb:=(lZ id ep kd).1 ef;have Fu:(dh (iK id ep kd s) 252).length=252:=by
  have:(iK id ep kd s).length=20+s.length:=by unfold iK;simp[dv,kK];omega
  unfold dh;rw[aU,eM];omega
 have hd4:(hJ id ep kd s).drop 4=dh (iK id ep kd s) 252:=nS _ _ 4 rfl;have ht4:(hJ id ep kd s).take 4=gD.gk (gD.iI (dh (iK id ep kd s) 252)):=nR _ _ 4 rfl;have hlen:(hJ id ep kd s).length=256:=by
  unfold hJ gD.bA;rw[aU,Fu];rfl
 have f4:((qF kd.toNat).drop 4).length=4:=by rw[dg,kK]
 have e1:(hJ id ep kd s).drop 12=cF ep++((qF kd.toNat).drop 4++dh s 232):=by
  rw[show 12=4+8 from rfl,<-fY,hd4,uC _ _ _ _ hs];exact nS _ _ 8 (dv _)
 have e2:(hJ id ep kd s).drop 20=(qF kd.toNat).drop 4++dh s 232:=by
  rw[show 20=12+8 from rfl,<-fY,e1];exact nS _ _ 8 (dv _)
 have e3:(hJ id ep kd s).drop 24=dh s 232:=by
  rw[show 24=20+4 from rfl,<-fY,e2];exact nS _ _ 4 f4
 have hdec:iT (hJ id ep kd s)=⟨id,ep,kd,dh s 232⟩:=by
  unfold iT;rw[e1,e2,e3,hd4,uC _ _ _ _ hs,nR _ _ 8 (dv _),nR _ _ 8 (dv _),nR _ _ 4 f4,pk id hb.1 hid,pk ep hb.2.1 (by omega),beN_kd _ (by omega)]
  congr 1
  omega
 unfold gf;rw[if_neg (by rw[hlen];simp),hd4,ht4,if_neg (by simp),hdec];simp only[ef,if_true]
theorem uD(d:D):d.bE.1.now=d.now:=by
 unfold D.bE
 split
 .rfl
 .split<;>rfl
theorem qc(d:D)(h:d.aT=0):d.bE.2=0/\d.bE.1.aT=0/\d.bE.1.down=d.down:=by
 unfold D.bE;rw[if_pos h];exact⟨rfl,h,rfl⟩
theorem rS(d:D)(i:Nat):(d.fc i).aT=d.aT/\(d.fc i).down=d.down:=by unfold D.fc;split<;>exact⟨rfl,rfl⟩
theorem gi(hd:d.down=false)(ha:d.aT=0)(hk:k<n)(s:List UInt8):(d.ar n k s).2=0/\(d.ar n k s).1.down=false/\(d.ar n k s).1.aT=0:=by
 have h0:d.gh n k=0:=by rw[wi d n k hk];simp[hd]
 unfold D.ar;rw[if_pos h0];have h1:(d.ct (k:Int).toNat s).aT=0:=((rS d _).1).trans ha;have h2:(d.ct (k:Int).toNat s).down=false:=((rS d _).2).trans hd;obtain⟨c1,c2,c3⟩:=qc _ h1;exact⟨c1,c3.trans h2,c2⟩
theorem CC{d:D}{n k:Nat}(b:List UInt8)(hd:d.down=false)(ha:d.aT=0):∀i,k+i<=n->(w4 d n k b i).2=0/\(w4 d n k b i).1.down=false/\(w4 d n k b i).1.aT=0
 |0,_=>⟨rfl,hd,ha⟩
 |i+1,hi=>by
  obtain⟨h1,h2,h3⟩:=CC (n:=n) (k:=k) b hd ha i (by omega);rw[Gm d n k b i h1,show(k:Int)+(i:Int)=((k+i:Nat):Int) by omega];exact gi h2 h3 (by omega) _
theorem uE(c:List UInt8)(h:c.length=64):hX c=c:=by
 unfold hX;rw[h,eB,vQ,jy,bJ (by omega)]
theorem po(ef:d.Ok n)(k:Nat)(hk:k<n)(s:List UInt8)(he:(d.ar n k s).2=0)(j:Nat)(hj:j<n):sec (d.ar n k s).1.now j=if k=j then hX s else sec d.now j:=by
 unfold D.ar at he ⊢
 by_cases h0:d.gh n k=0
 .rw[if_pos h0,uD];show sec (et d.now (k:Int).toNat (hX s)) j=_;rw[show((k:Nat):Int).toNat=k from by omega];exact Cx ef.now hk (gM s) hj
 .rw[if_neg h0]at he;exact absurd he h0
theorem As(ef:d.Ok n)(b:List UInt8)(hb:b.length=256):∀i,i<=4->k+i<=n->(w4 d n k b i).2=0->∀j,j<n->sec (w4 d n k b i).1.now j=if k<=j/\j<k+i then(b.drop (64*(j-k))).take 64 else sec d.now j
 |0,_,_,_,j,_=>by rw[if_neg (by omega)];rfl
 |i+1,hi,ub,he,j,hj=>by
  have h1:(w4 d n k b i).2=0:=by
   by_cases h:(w4 d n k b i).2=0
   .exact h
   .rw[CB d n k b i (i+1) h (by omega)]at he;exact absurd he h
  have ih:=As ef b hb i (by omega) (by omega) h1 j hj;rw[Gm d n k b i h1]at he ⊢;rw[show(k:Int)+(i:Int)=((k+i:Nat):Int) by omega]at he ⊢;rw[po (rQ ef k b i) (k+i) (by omega) _ he j hj]
  by_cases hji:k+i=j
  .rw[if_pos hji,if_pos (by omega),uE _ (by rw[cE,dg];omega)]
   congr 3;omega
  .rw[if_neg hji,ih]
   by_cases hr:k<=j/\j<k+i
   .rw[if_pos hr,if_pos (by omega)]
   .rw[if_neg hr,if_neg (by omega)]
theorem jm(F:List UInt8)(k:Nat):(F.drop (64*k)).take 256=sec F k++sec F (k+1)++sec F (k+2)++sec F (k+3):=by
 have h0:=lD F k 0;have h1:=lD F k 1;have h2:=lD F k 2;have h3:=lD F k 3;simp only[qY,gJ,eA,iE]at h0;rw[show(256:Nat)=64*(3+1)from rfl,h3,h2,h1,h0]
theorem chunks(b:List UInt8)(hb:b.length=256):(b.drop (64*0)).take 64++(b.drop (64*1)).take 64++(b.drop (64*2)).take 64++(b.drop (64*3)).take 64=b:=by
 have:=jm b 0;rw[qY,zN,bJ (by omega)]at this;exact this.symm
theorem wj(ef:d.Ok n)(id:Nat)(b:List UInt8)(hb:b.length=256)(hid:id<bz n)(he:(w4 d n (2+4*id) b 4).2=0):
  ((w4 d n (2+4*id) b 4).1.now.drop (64*(2+4*id))).take 256=b:=by
 have hk:2+4*id+3<n:=by unfold bz at hid;omega
 have hw:=As ef b hb 4 (by omega) (by omega) he;rw[jm,hw _ (by omega),hw _ (by omega),hw _ (by omega),hw _ (by omega),if_pos (by omega),if_pos (by omega),if_pos (by omega),if_pos (by omega)];have:=chunks b hb;rw[show 2+4*id-(2+4*id)=0 by omega,show 2+4*id+1-(2+4*id)=1 by omega,show 2+4*id+2-(2+4*id)=2 by omega,show 2+4*id+3-(2+4*id)=3 by omega];exact this
theorem wk(ef:d.Ok n)(id jd:Nat)(b:List UInt8)(hb:b.length=256)(hid:id<bz n)(hjd:jd<bz n)(eG:id≠jd)(he:(w4 d n (2+4*id) b 4).2=0):
  ((w4 d n (2+4*id) b 4).1.now.drop (64*(2+4*jd))).take 256=(d.now.drop (64*(2+4*jd))).take 256:=by
 have hk:2+4*id+3<n:=by unfold bz at hid;omega
 have hk2:2+4*jd+3<n:=by unfold bz at hjd;omega
 have hw:=As ef b hb 4 (by omega) (by omega) he;rw[jm,hw _ (by omega),hw _ (by omega),hw _ (by omega),hw _ (by omega),jm,if_neg (by omega),if_neg (by omega),if_neg (by omega),if_neg (by omega)]
theorem rU{id:Nat}{b:List UInt8}(hid:id<bz n)(hd:d.down=false)(hb:(d.now.drop (64*(2+4*id))).take 256=b):
  bj d n id=if(gf b).2≠0 then(.zero,(gf b).2)else if(gf b).1.id≠(id:Int)then(.zero,14)else((gf b).1,0):=by
 unfold bj;rw[if_neg (by omega),if_neg (by simp[hd]),show((id:Nat):Int).toNat=id from by omega,hb]
theorem kP(ef:d.Ok n)(hd:d.down=false)(ha:d.aT=0)(id:Nat)(ep kd:Int)(s:List UInt8)(hid:id<bz n)(hp:Al id ep kd=true)(hs:s.length<=232):
  (aP d n id ep kd s).2=0/\(aP d n id ep kd s).1.down=false/\(aP d n id ep kd s).1.aT=0/\bj (aP d n id ep kd s).1 n id=(⟨id,ep,kd,dh s 232⟩,0)/\
   ∀jd,jd<bz n->jd≠id->bj (aP d n id ep kd s).1 n jd=bj d n jd:=by
 have mW:ct id ep kd s=(hJ id ep kd s,0):=by unfold ct;rw[if_pos hp,if_neg (by omega)]
 have hlen:=(rR (by rw[mW])).1;rw[mW]at hlen;have hw:aP d n id ep kd s=w4 d n (2+4*id) (hJ id ep kd s) 4:=by
  unfold aP;rw[mW,if_neg (by simp),if_neg (by omega)];rfl
 have hk:2+4*id+4<=n:=by unfold bz at hid;omega
 have hid2:((id:Nat):Int)<=9223372036854775807:=by have:=ef.small;unfold bz at hid;omega
 obtain⟨f1,f2,f3⟩:=CC (k:=2+4*id) (hJ id ep kd s) hd ha 4 hk;rw[hw];refine⟨f1,f2,f3,?_,λjd hjd eG=>?_⟩
 .rw[rU hid f2 (wj ef id _ hlen hid f1),DP hp hid2 hs];simp
 .rw[rU hjd f2 rfl,rU hjd hd rfl,wk ef id jd _ hlen hid hjd (Ne.symm eG) f1]
end Go.Proofs.YtmonobkginiajaaGreat.Pg
namespace Go.Proofs.YtmonobkginiajaaGreat.Fm
open Go.RowKit
def ints(l:List Int):List Value:=l.map (Value.int .i64)
@[simp] theorem ints_length(l:List Int):(ints l).length=l.length:=by simp[ints]
theorem Gt(l:List Int)(k:Nat)(h:k<l.length):(ints l)[k]?=some (.int .i64 l[k]):=by simp[ints,h]
theorem ints_set(l:List Int)(k:Nat)(x:Int):(ints l).set k (.int .i64 x)=ints (l.set k x):=by simp[ints]
def wm(l:List Int)(i:Int):Bool:=decide (0<=i/\i<l.length)
def cX(l:List Int)(i:Int):List Int×Int:=
 if wm l i then(if l.getD i.toNat 0=2 then(l.set i.toNat 0,0)else if l.getD i.toNat 0=1 then(l.set i.toNat 3,0)else(l,9))else(l,3)
def cH(l:List Int)(k:Int):Nat:=l.findIdx (· ==k)
def cr(l:List Int):List Int×Int×Int:=
 if cH l 0<l.length then(l.set (cH l 0) 2,cH l 0,0)else(l,0,11)
def mX(l:List Int)(k:Int):Nat->List Int
 |0=>[]
 |n+1=>mX l k n++if l.getD n 0=k then [(n:Int)]else []
def k9(l:List Int)(k:Int):List Int:=mX l k l.length
variable{w:World}{b g:Nat}{l:List Int}
theorem Gu:(Tryz.prog.info? 3).map (λi=>(i.zero,i.size,i.bytes))=some (some (.int .i64 0),1,8):=by kernel_rfl
structure dD(w:World)(b g:Nat)(l:List Int):Prop where
 hb:aD w b 218 #[.slice (some ⟨g,0,none⟩) l.length l.length]
 hg:aD w g 3 (ints l).toArray
 hl:l.length<=1024
def mp(b:Nat):Value:= .pointer (some ⟨b,0,none⟩)
section
variable{w w':World}{b g:Nat}{l:List Int}{S:List Nat}
theorem dD.ne(h:dD w b g l):b≠g:=h.hb.mB h.hg (by decide)
theorem dD.c0(h:dD w b g l):w.cell? ⟨b,0,none⟩=some (.slice (some ⟨g,0,none⟩) l.length l.length):=h.hb.ab rfl
theorem dD.ck(h:dD w b g l)(k:Nat)(hk:k<l.length):w.cell? ⟨g,k,none⟩=some (.int .i64 (l.getD k 0)):=by
 refine h.hg.ab ?_;rw[cW,Gt _ _ hk];simp[List.getD,aN hk]
theorem dD.fk(h:dD w b g l)(k:Nat)(hk:k<l.length):w.frozen? ⟨g,k,none⟩=false:=h.hg.frozen k (by simpa using hk)
theorem dD.only(h:dD w b g l)(ho:ag S w w')(h1:b∉S)(h2:g∉S):dD w' b g l:=⟨h.hb.only ho h1,h.hg.only ho h2,h.hl⟩
theorem dD.below(h:dD w b g l)(hb:Below w.heap.size w w'):dD w' b g l:=h.only (S:=[]) (.aj hb) (by simp) (by simp)
theorem dD.drew(h:dD w b g l):dD w.drew b g l:=⟨h.hb,h.hg,h.hl⟩
theorem dD.bu(h:dD w b g l)(k:Nat)(x:Int):dD (w.setCell ⟨g,k,none⟩ (.int .i64 x)) b g (l.set k x):=by
 refine⟨?_,?_,by simpa using h.hl⟩
 .rw[bH];exact h.hb.aY (by exact h.ne) _
 .have:=h.hg.bu k (.int .i64 x);rw[nE,ints_set]at this;exact this
end
theorem wg(n:Nat)(w:World)(h:n<=1024):
  Calls Tryz.prog 81 #[.int .i64 n] w λe w'=> ∃b g,e=.returned (.tuple #[mp b,.int .i64 0])/\dD w' b g (List.replicate n 0)/\Below w.heap.size w w'/\w.heap.size<=b/\w.heap.size<=g:=by
 have hmk:∀w':World,(Instr.makeSlice 60 (.int .i64 n) (.int .i64 n)).run Tryz.prog w'= .ok (.slice (some ⟨w'.heap.size,0,none⟩) n n) (w'.alloc (.cells (madeCells #[.int .i64 0] n) 3)):=λw'=>by
  obtain⟨i0,hi,jb,gW,iS⟩:=info_parts Gu;have h:=run_make (P:=Tryz.prog) w' 60 3 i0 (.int .i64 0) Tryz.underlying60 hi jb .i64 .i64 n n (by omega) (gE _) (by rw[iS];omega) (by omega);simpa [gW,Value.cells]using h
 go_enter Tryz.func81,Tryz.ntmps81
 go_wp2
 go_ret2;refine⟨w.heap.size+1,w.heap.size,rfl,⟨?_,?_,by simpa using h⟩,((Below.refl _ _).alloc (ak _) _).alloc (by simp) _,by omega,by omega⟩
 .have:=aD.new (w.alloc (.cells (madeCells #[.int .i64 0] n) 3)) 218 #[.slice (some ⟨w.heap.size,0,none⟩) n n];simpa using this
 .have:=(aD.new w 3 (madeCells #[.int .i64 0] n)).alloc (.cells #[.slice (some ⟨w.heap.size,0,none⟩) n n] 218);rw[eU]at this;rw[eU];simpa [ints]using this
theorem CD(m:dD w b g l)(i:Int)(h:wm l i=true):
  Calls Tryz.prog 183 #[mp b,.int .i64 i] w λe w'=>e=.returned (.int .i64 0)/\w=w':=by
 simp only[wm,decide_eq_true_eq]at h;obtain⟨h0,h1⟩:=h;have hl:=m.hl;have c0:=m.c0;unfold mp;go_enter Tryz.func183,Tryz.ntmps183
 go_wp2
 go_ret;exact⟨rfl,rfl⟩
theorem at_no(m:dD w b g l)(i:Int)(h:wm l i=false):
  Calls Tryz.prog 183 #[mp b,.int .i64 i] w λe w'=>e=.returned (.int .i64 3)/\w=w':=by
 simp only[wm,decide_eq_false_iff_not]at h;have h':i<0\/(¬i<0/\(l.length:Int)<=i):=by omega
 clear h;have hl:=m.hl;have c0:=m.c0;unfold mp
 rcases h' with h|⟨h,h1⟩
 all_goals
  go_enter Tryz.func183,Tryz.ntmps183
  go_wp2
  go_ret;exact⟨rfl,rfl⟩
variable{w:World}{b g:Nat}{l:List Int}
theorem pr(m:dD w b g l)(i:Int):
  Calls Tryz.prog 153 #[mp b,.int .i64 i] w λe w'=>e=.returned (.int .i64 (cX l i).2)/\dD w' b g (cX l i).1/\ag [g] w w':=by
 by_cases qH:wm l i=true
 .have rV:=qH;simp only[wm,decide_eq_true_eq]at rV;obtain⟨h0,h1⟩:=rV;obtain⟨k,rfl⟩:=dn h0;have hk:k<l.length:=by omega
  have c0:=m.c0;have ck:=m.ck k hk;have fk:=m.fk k hk
  by_cases hz:l.getD k 0=2
  .have hu:cX l k=(l.set k 0,0):=by simp only[cX,qH,if_true,eK,hz]
   rw[hu];rw[hz]at ck;have HU:=xh (m.bu k 0);clear hz hu;unfold mp;go_enter Tryz.func153,Tryz.ntmps153;go_wp2_with fail;refine(CD m k qH).mono ?_;rintro e w1 ⟨rfl,rfl⟩;go_wp2_with fail;go_ret;exact⟨rfl,HU.o,(ag.refl _ _).setCell (by simp) _⟩
  .by_cases gW:l.getD k 0=1
   .have hu:cX l k=(l.set k 3,0):=by simp only[cX,qH,if_true,eK,gW];rfl
    rw[hu];rw[gW]at ck;have HU:=xh (m.bu k 3);clear hz gW hu;unfold mp;go_enter Tryz.func153,Tryz.ntmps153;go_wp2_with fail;refine(CD m k qH).mono ?_;rintro e w1 ⟨rfl,rfl⟩;go_wp2_with fail;go_ret;exact⟨rfl,HU.o,(ag.refl _ _).setCell (by simp) _⟩
   .have hu:cX l k=(l,9):=by simp only[cX,qH,if_true,eK,if_neg hz,if_neg gW]
    rw[hu];clear hu fk;generalize l.getD k 0=x at ck hz gW;unfold mp;go_enter Tryz.func153,Tryz.ntmps153;go_wp2_with fail;refine(CD m k qH).mono ?_;rintro e w1 ⟨rfl,rfl⟩;go_wp2_with fail;go_ret;exact⟨rfl,m,ag.refl _ _⟩
 .have rV:wm l i=false:=by simpa using qH
  have hu:cX l i=(l,3):=by simp only[cX,rV];rfl
  rw[hu];clear hu;unfold mp;go_enter Tryz.func153,Tryz.ntmps153;go_wp2_with fail;refine(at_no m i rV).mono ?_;rintro e w1 ⟨rfl,rfl⟩;go_wp2_with fail;go_ret;exact⟨rfl,m,ag.refl _ _⟩
theorem xP(l:List Int)(k:Int)(n:Nat)(hn:n<=l.length)(h:∀j,j<n->l.getD j 0≠k):n<=cH l k:=by
 rcases dZ (cH l k) n with eT|Dm
 .have h1:l.findIdx (· ==k)<l.length:=by unfold cH at eT;omega
  have h2:=mO (w:=h1);have h3:=h _ eT;unfold cH at h3;simp only[List.getD,aN h1,kE]at h3;exact absurd (by simpa using h2) h3
 .exact Dm
theorem Gv(l:List Int)(k:Int)(n:Nat)(hn:n<l.length)(h:∀j,j<n->l.getD j 0≠k)(hk:l.getD n 0=k):cH l k=n:=by
 have h1:=xP l k n (by omega) h;have h2:cH l k<=n:=by
  unfold cH;have hg:l[n]=k:=by simpa [List.getD,aN hn]using hk
  rcases dZ n (l.findIdx (· ==k))with eT|Dm
  .have:=vN eT;simp[hg]at this
  .exact Dm
 omega
theorem Au(l:List Int)(k:Int)(h:∀j,j<l.length->l.getD j 0≠k):cH l k=l.length:=by
 have:=xP l k l.length (ak _) h;have h2:cH l k<=l.length:=kz;omega
def iq(l:List Int)(k:Int):Int:=if cH l k<l.length then(cH l k:Int)else -1
theorem l6(g n c:Nat)(l:List Int)(hn:n=l.length)(hm:n<=1000000)(k:Int)(w:World)(hc:∀j,j<l.length->w.cell? ⟨g,j,none⟩=some (.int .i64 (l.getD j 0))):
  Calls Tryz.prog 165 #[.slice (some ⟨g,0,none⟩) n c,.int .i64 k] w λe w'=>e=.returned (.int .i64 (iq l k))/\w=w':=by
 subst hn;go_enter Tryz.func165,Tryz.ntmps165
 go_wp2
 go_loop [5,8] (λ_ i=> ∃j:Nat,j<=l.length/\i=.int .i64 j/\Hid (∀x,x<j->l.getD x 0≠k)) (λ_ i=>l.length-(intOf i).toNat)
 case atStart=>exact⟨0,by omega,rfl,xh (by omega)⟩
 case round=>
  obtain⟨j,hj,rfl,H⟩:=hrel
  by_cases h:j<l.length
  .have cj:=hc j h;clear hc
   by_cases hk:l.getD j 0=k
   .have he:iq l k=j:=by unfold iq;rw[Gv l k j h H.o hk,if_pos h]
    have HE:=xh he;clear he;rw[hk]at cj;clear hk
    go_wp2
    go_ret;exact⟨by rw[HE.o];rfl,rfl⟩
   .have H2:=xh (show ∀x,x<j+1->l.getD x 0≠k from λx hx=>by
     rcases dZ x j with h1|h1
     .exact H.o x h1
     .have:x=j:=by omega
      subst this;exact hk)
    have hk':(k==l.getD j 0)=false:=by simp;exact λe=>hk e.symm
    clear hk;generalize l.getD j 0=y at *
    go_wp2
    go_round
    case rel=>exact⟨j+1,by omega,by go_num,H2⟩
    case measure=>simp[intOf];omega
  .have hjl:j=l.length:=by omega
   have he:iq l k= -1:=by
    unfold iq;rw[Au l k (by rw[<-hjl];exact H.o),if_neg (by omega)]
   have HE:=xh he;clear he hjl hc
   go_wp2
   go_ret;exact⟨by rw[HE.o];rfl,rfl⟩
theorem uF(m:dD w b g l)(k:Int):
  Calls Tryz.prog 195 #[mp b,.int .i64 k] w λe w'=>e=.returned (.int .i64 (iq l k))/\w=w':=by
 have hl:=m.hl;have c0:=m.c0;have HC:=xh m.ck;unfold mp;go_enter Tryz.func195,Tryz.ntmps195;go_wp2_with fail;refine(l6 g _ _ l rfl (by omega) k _ HC.o).mono ?_;rintro e w1 ⟨rfl,rfl⟩;go_wp2_with fail;go_ret;exact⟨rfl,rfl⟩
theorem rK(m:dD w b g l):
  Calls Tryz.prog 151 #[mp b] w λe w'=>e=.returned (.tuple #[.int .i64 (cr l).2.1,.int .i64 (cr l).2.2])/\dD w' b g (cr l).1/\ag [g] w w':=by
 have hl:=m.hl;have c0:=m.c0
 by_cases h:cH l 0<l.length
 .have hu:cr l=(l.set (cH l 0) 2,(cH l 0:Int),0):=by rw[cr,if_pos h]
  have hi:iq l 0=cH l 0:=by rw[iq,if_pos h]
  rw[hu];have K:=xh (hi▸uF m 0);have ck:=m.ck _ h;have fk:=m.fk _ h;have HU:=xh (m.bu (cH l 0) 2);clear hu hi;generalize cH l 0=k at *;unfold mp at *;go_enter Tryz.func151,Tryz.ntmps151;go_wp2_with fail;refine(K.o).mono ?_;rintro e w1 ⟨rfl,rfl⟩;go_wp2_with fail;go_ret2;exact⟨rfl,HU.o,(ag.refl _ _).setCell (by simp) _⟩
 .have hu:cr l=(l,0,11):=by rw[cr,if_neg h]
  have hi:iq l 0= -1:=by rw[iq,if_neg h]
  rw[hu];have K:=xh (hi▸uF m 0);clear hu hi h;unfold mp at *;go_enter Tryz.func151,Tryz.ntmps151;go_wp2_with fail;refine(K.o).mono ?_;rintro e w1 ⟨rfl,rfl⟩;go_wp2_with fail;go_ret2;exact⟨rfl,m,ag.refl _ _⟩
def bo(l:List Int)(i:Int):Bool:=wm l i && (l.getD i.toNat 0==2)
theorem l7{w:World}{b g:Nat}{l:List Int}(m:dD w b g l)(i:Int):
  Calls Tryz.prog 192 #[mp b,.int .i64 i] w λe w'=>e=.returned (.bool (bo l i))/\w=w':=by
 by_cases qH:wm l i=true
 .have rV:=qH;simp only[wm,decide_eq_true_eq]at rV;obtain⟨h0,h1⟩:=rV;obtain⟨k,rfl⟩:=dn h0;have hk:k<l.length:=by omega
  have c0:=m.c0;have ck:=m.ck k hk;have HF:=xh (show bo l k=(l.getD k 0==2) by simp only[bo,qH,FJ,eK]);generalize l.getD k 0=x at ck HF;unfold mp;go_enter Tryz.func192,Tryz.ntmps192;go_wp2_with fail;refine(CD m k qH).mono ?_;rintro e w1 ⟨rfl,rfl⟩;go_wp2_with fail;go_ret;exact⟨by rw[HF.o];rfl,rfl⟩
 .have rV:wm l i=false:=by simpa using qH
  have HF:=xh (show bo l i=false by simp only[bo,rV,Bool.false_and]);unfold mp;go_enter Tryz.func192,Tryz.ntmps192;go_wp2_with fail;refine(at_no m i rV).mono ?_;rintro e w1 ⟨rfl,rfl⟩;go_wp2_with fail;go_ret;exact⟨by rw[HF.o];rfl,rfl⟩
end Go.Proofs.YtmonobkginiajaaGreat.Fm
