/- packed. -/
import Derived.ChangeKeysEq
import Derived.Test.YtmonobkginiajaaGreatAs2
set_option linter.all false
set_option maxRecDepth 100000
set_option maxHeartbeats 8000000
namespace Go.Proofs.YtmonobkginiajaaGreat
open Go.Proofs.Tryz
open Value renaming string→U2,slice→U3,int→U5,bool→U6,tuple→U8
open Ending renaming returned→BY
open IntKind renaming i64→By
open Obj renaming cells→WF
open Go renaming World→YB,Value→YO,Calls→eq
open List renaming replicate→fd
open UInt8 renaming ofNat→gn
namespace Pg
open Go.RowKit Pk Dk
variable{w:YB}
def cH(n:Nat):Nat:=(n-2) / 4
theorem pk{L:Dk.Loc}{n:Nat}{d:D}(h:bf w L n d):
  eq prog 136 #[dp L.b] w λe w'=>e=BY (cH n:Nat)/\w=w':=by
 have K:=xh<|Jx h;have hn:=h.ok.small;unfold dp at *
 by_cases h2:2<=n
 .obtain⟨m,rfl⟩:∃m,n=m+2:=⟨n-2,by omega⟩;have e2:IntKind.i64.wrap ((((m+2:Nat):Int)-2).tdiv 4)=((cH (m+2):Nat):Int):=by
   have:(((m+2:Nat):Int)-2)=(m:Int):=by omega
   rw[this,MZ (by omega),dl];unfold cH;omega
  have h3:¬((m+2:Nat):Int)-2<0:=by omega
  have HM:=xh (show((cH (m+2):Nat):Int)=(m:Int) / 4 from by unfold cH;omega);go_in;go_wp;go_call K.o as e w1 ⟨rfl,rfl⟩;go_wp2_with fail
  all_goals
   go_ret;refine⟨?_,rfl⟩;rw[HM.o]
   first|(simp;done)|(simp;omega)
 .have h3:(n:Int)-2<0:=by omega
  have HM:=xh (show((cH n:Nat):Int)=0 from by unfold cH;omega);go_in;go_wp;go_call K.o as e w1 ⟨rfl,rfl⟩;go_wp2;go_ret;refine⟨?_,rfl⟩;rw[HM.o]
  first|(simp;done)|(simp;omega)
def rz(k:Nat):List YO:=[U5 By (k:Nat),U5 By ((k:Int)+1),U5 By ((k:Int)+2),U5 By ((k:Int)+3)]
def oR(k i:Nat):List YO:=(rz k).take i++fd (4-i) (U5 By 0)
theorem eh{fn:Func}{p:Tmp}{ty:TypeId}(h:fn.results= #[.cell p ty])(tmps:Array YO)(P:Program)(w:YB):
  (results fn tmps).run P w=((asAddr (tmps.getD p undef)).run P w).andThen λa w₁=>(loadVar ty a).run P w₁:=by
 simp only[results,h];simp[Sem.run_bind,Result.andThen]
theorem WA{fn:Func}{p:Tmp}{g:Nat}{a b c d:Int}{tmps:Array YO}(h:fn.results= #[.cell p 244])(hp:tmps.getD p undef=.pointer (some ⟨g,0,none⟩))(B:aF w g 244 #[a,b,c,d]):
  (results fn tmps).run prog w=.ok (.agg #[a,b,c,d]) w:=by
 have c0:=B.bi 0;have c1:=B.bi 1;have c2:=B.bi 2;have c3:=B.bi 3;rw[eh h,hp];go_simp
theorem qy(id:Nat)(h:id<=1023):
  eq prog 184 #[(id:Nat)] w λe w'=>e=BY (.agg (rz (2+4*id)).toArray)/\i7 w w':=by
 have Z:∀i:Nat,i<=3->IntKind.i64.wrap (2+(id:Int)*4+(i:Int))=2+(id:Int)*4+(i:Int):=λi hi=>dl;have q0:Value.int By (2+(id:Int)*4)=U5 By ((2+4*id:Nat):Int):=by congr 1;omega
 have q1:Value.int By (2+(id:Int)*4+1)=U5 By (((2+4*id:Nat):Int)+1):=by congr 1;omega
 have q2:Value.int By (2+(id:Int)*4+2)=U5 By (((2+4*id:Nat):Int)+2):=by congr 1;omega
 have q3:Value.int By (2+(id:Int)*4+3)=U5 By (((2+4*id:Nat):Int)+3):=by congr 1;omega
 have Q:=xh<|And.intro q0 (And.intro q1 (And.intro q2 q3));clear q0 q1 q2 q3;have C0:=aF.new (w.alloc (WF #[U5 By 0,U5 By 0,U5 By 0,U5 By 0] 244)) 244 #[U5 By 0,U5 By 0,U5 By 0,U5 By 0]
 rw[show(w.alloc (WF #[U5 By 0,U5 By 0,U5 By 0,U5 By 0] 244)).heap.size=w.heap.size+1 from by simp]at C0;have C0:=xh C0;go_in;go_wp
 go_loopw [5] (λiv wr=> ∃i:Nat,i<=4/\iv=U5 By i/\Hid (aF wr (w.heap.size+1) 244 (oR (2+4*id) i).toArray)/\Hid (aF wr w.heap.size 244 #[U5 By 0,U5 By 0,U5 By 0,U5 By 0])/\Hid (i7 w wr)) (λiv _=>4-(intOf iv).toNat)
 case atStart=>exact⟨0,by omega,rfl,C0,(xh<|(aF.new w 244 #[U5 By 0,U5 By 0,U5 By 0,U5 By 0]).alloc (WF #[U5 By 0,U5 By 0,U5 By 0,U5 By 0] 244)),(xh<|ae (i6 w (WF #[U5 By 0,U5 By 0,U5 By 0,U5 By 0] 244)) (WF #[U5 By 0,U5 By 0,U5 By 0,U5 By 0] 244))⟩
 case round=>
  obtain⟨i,hi,rfl,C,B,O⟩:=hrel;have ii:i=0\/i=1\/i=2\/i=3\/i=4:=by omega
  have z0:=C.o.frozen 0 (by rcases ii with rfl|rfl|rfl|rfl|rfl<;>simp[oR,rz]);have z1:=C.o.frozen 1 (by rcases ii with rfl|rfl|rfl|rfl|rfl<;>simp[oR,rz]);have z2:=C.o.frozen 2 (by rcases ii with rfl|rfl|rfl|rfl|rfl<;>simp[oR,rz]);have z3:=C.o.frozen 3 (by rcases ii with rfl|rfl|rfl|rfl|rfl<;>simp[oR,rz])
  rcases ii with rfl|rfl|rfl|rfl|rfl
  .have c0:=C.o.ab (i:=0) (v:=U5 By 0) rfl;have C2:=xh (show aF (wr.setCell ⟨w.heap.size+1,0,none⟩ (U5 By (2+(id:Int)*4))) (w.heap.size+1) 244 (oR (2+4*id) 1).toArray from by
    have h:=C.o.cw 0 (U5 By (2+(id:Int)*4));rw[Q.o.1]at h ⊢;exact h)
   have B2:=xh<|B.o.aY (p:=⟨w.heap.size+1,0,none⟩) (by simp) (U5 By (2+(id:Int)*4));have O2:=xh<|O.o.setCell (p:=⟨w.heap.size+1,0,none⟩) (by simp) (U5 By (2+(id:Int)*4));go_wp;go_roundw
   case rel=>exact⟨1,by omega,by first|rfl|simp,C2,B2,O2⟩
   case measure=>first|decide|simp[intOf]
  .have c0:=C.o.ab (i:=1) (v:=U5 By 0) rfl;have C2:=xh (show aF (wr.setCell ⟨w.heap.size+1,1,none⟩ (U5 By (2+(id:Int)*4+1))) (w.heap.size+1) 244 (oR (2+4*id) 2).toArray from by
    have h:=C.o.cw 1 (U5 By (2+(id:Int)*4+1));rw[Q.o.2.1]at h ⊢;exact h)
   have B2:=xh<|B.o.aY (p:=⟨w.heap.size+1,1,none⟩) (by simp) (U5 By (2+(id:Int)*4+1));have O2:=xh<|O.o.setCell (p:=⟨w.heap.size+1,1,none⟩) (by simp) (U5 By (2+(id:Int)*4+1));go_wp;go_roundw
   case rel=>exact⟨2,by omega,by first|rfl|simp,C2,B2,O2⟩
   case measure=>first|decide|simp[intOf]
  .have c0:=C.o.ab (i:=2) (v:=U5 By 0) rfl;have C2:=xh (show aF (wr.setCell ⟨w.heap.size+1,2,none⟩ (U5 By (2+(id:Int)*4+2))) (w.heap.size+1) 244 (oR (2+4*id) 3).toArray from by
    have h:=C.o.cw 2 (U5 By (2+(id:Int)*4+2));rw[Q.o.2.2.1]at h ⊢;exact h)
   have B2:=xh<|B.o.aY (p:=⟨w.heap.size+1,2,none⟩) (by simp) (U5 By (2+(id:Int)*4+2));have O2:=xh<|O.o.setCell (p:=⟨w.heap.size+1,2,none⟩) (by simp) (U5 By (2+(id:Int)*4+2));go_wp;go_roundw
   case rel=>exact⟨3,by omega,by first|rfl|simp,C2,B2,O2⟩
   case measure=>first|decide|simp[intOf]
  .have c0:=C.o.ab (i:=3) (v:=U5 By 0) rfl;have C2:=xh (show aF (wr.setCell ⟨w.heap.size+1,3,none⟩ (U5 By (2+(id:Int)*4+3))) (w.heap.size+1) 244 (oR (2+4*id) 4).toArray from by
    have h:=C.o.cw 3 (U5 By (2+(id:Int)*4+3));rw[Q.o.2.2.2]at h ⊢;exact h)
   have B2:=xh<|B.o.aY (p:=⟨w.heap.size+1,3,none⟩) (by simp) (U5 By (2+(id:Int)*4+3));have O2:=xh<|O.o.setCell (p:=⟨w.heap.size+1,3,none⟩) (by simp) (U5 By (2+(id:Int)*4+3));go_wp;go_roundw
   case rel=>exact⟨4,by omega,by first|rfl|simp,C2,B2,O2⟩
   case measure=>first|decide|simp[intOf]
  .have c0:=C.ap 0;have c1:=C.ap 1;have c2:=C.ap 2;have c3:=C.ap 3;have b0:=B.ap 0;have b1:=B.ap 1;have b2:=B.ap 2;have b3:=B.ap 3;have x0:=B.o.frozen 0 (by simp);have x1:=B.o.frozen 1 (by simp);have x2:=B.o.frozen 2 (by simp);have x3:=B.o.frozen 3 (by simp)
   have ZB:=xh<|(((B.o.cw 0 ((2+4*id:Nat):Int)).cw 1 (U5 By (((2+4*id:Nat):Int)+1))).cw 2 (U5 By (((2+4*id:Nat):Int)+2))).cw 3 (U5 By (((2+4*id:Nat):Int)+3))
   have ZO:=xh<|(((O.o.setCell (p:=⟨w.heap.size,0,none⟩) (ai _) ((2+4*id:Nat):Int)).setCell (p:=⟨w.heap.size,1,none⟩) (ai _) (U5 By (((2+4*id:Nat):Int)+1))).setCell (p:=⟨w.heap.size,2,none⟩) (ai _) (U5 By (((2+4*id:Nat):Int)+2))).setCell (p:=⟨w.heap.size,3,none⟩) (ai _) (U5 By (((2+4*id:Nat):Int)+3))
   simp only[oR,rz,fM,G4,jR,cm,fT,vv,ai,List.getElem_cons_zero,List.getElem_cons_succ,List.getElem_toArray]at c0 c1 c2 c3;generalize hKK:((2+4*id:Nat):Int)=K at *;have HKK:=xh hKK;go_wp;exact bodyPost_ret (WA rfl rfl ZB.o) rfl ⟨by unfold rz;rw[HKK.o],ZO.o⟩
variable{d:D}{n:Nat}
theorem xE(d:D)(h:d.bu<=9223372036854775807):d.cW.1.calls=d.calls+1/\d.cW.1.bu<=9223372036854775807:=by
 unfold D.cW
 split
 .exact⟨rfl,h⟩
 .split
  .exact⟨rfl,by show(0:Int)<=_;omega⟩
  .exact⟨rfl,by show d.bu-1<=_;omega⟩
theorem Bg(d:D)(i:Nat):(d.jc i).calls=d.calls/\(d.jc i).bu=d.bu:=by unfold D.jc;split<;>exact⟨rfl,rfl⟩
theorem jF(d:D)(n:Nat)(i:Int)(s:pu)(h:d.bu<=9223372036854775807):(d.aG n i s).1.calls<=d.calls+1/\(d.aG n i s).1.bu<=9223372036854775807:=by
 unfold D.aG
 split
 .have h1:(d.eg i.toNat s).calls=d.calls:=(Bg d i.toNat).1;have h2:(d.eg i.toNat s).bu=d.bu:=(Bg d i.toNat).2;have:=xE (d.eg i.toNat s) (by omega);omega
 .exact⟨by show d.calls<=_;omega,h⟩
def w4(d:D)(n k:Nat)(b:pu):Nat->D×Int
 |0=>(d,0)
 |i+1=>if(w4 d n k b i).2=0 then(w4 d n k b i).1.aG n ((k:Int)+i) ((b.drop (64*i)).take 64)else w4 d n k b i
theorem WB(d:D)(n k:Nat)(b:pu)(i:Nat)(h:(w4 d n k b i).2=0):w4 d n k b (i+1)=(w4 d n k b i).1.aG n ((k:Int)+i) ((b.drop (64*i)).take 64):=by
 show(if _ then _ else _)=_;rw[if_pos h]
theorem QY(d:D)(n k:Nat)(b:pu)(i j:Nat)(h:(w4 d n k b i).2≠0)(hj:i<=j):w4 d n k b j=w4 d n k b i:=by
 induction j with
 |zero=>rw[show i=0 by omega]
 |succ j ih=>
  by_cases e:i=j+1
  .rw[e]
  .have:=ih (by omega);show(if _ then _ else _)=_;rw[this,if_neg h]
theorem WC(d:D)(n k:Nat)(b:pu)(h:d.bu<=9223372036854775807):∀i,(w4 d n k b i).1.calls<=d.calls+i/\(w4 d n k b i).1.bu<=9223372036854775807
 |0=>⟨by simp[w4],h⟩
 |i+1=>by
  obtain⟨h1,h2⟩:=WC d n k b h i;unfold w4
  split
  .have:=jF (w4 d n k b i).1 n ((k:Int)+i) ((b.drop (64*i)).take 64) h2;omega
  .omega
theorem Bh(h:d.Ok n)(k:Nat)(b:pu):∀i,(w4 d n k b i).1.Ok n
 |0=>h
 |i+1=>by
  unfold w4
  split
  .exact(Bh h k b i).write _ _
  .exact Bh h k b i
def bt(d:D)(n:Nat)(id ep kd:Int)(s:pu):D×Int:=
 if(eg id ep kd s).2≠0 then(d,(eg id ep kd s).2)
 else if(cH n:Int)<=id then(d,3)
 else w4 d n (2+4*id.toNat) (eg id ep kd s).1 4
theorem sS(d:D)(n:Nat)(id ep kd:Int)(s:pu)(h:d.bu<=9223372036854775807):(bt d n id ep kd s).1.calls<=d.calls+4/\(bt d n id ep kd s).1.bu<=9223372036854775807:=by
 unfold bt
 split
 .exact⟨by show d.calls<=_;omega,h⟩
 .split
  .exact⟨by show d.calls<=_;omega,h⟩
  .exact WC d n _ _ h 4
theorem Bi{id ep kd:Int}{s:pu}(h:(eg id ep kd s).2=0):(eg id ep kd s).1.length=256/\NA id ep kd=true:=by
 unfold eg at h ⊢
 split at h
 .rename_i gj;rw[if_pos gj]
  split at h
  .simp at h
  .rename_i hs;rw[if_neg hs];have h1:(ft (mx id ep kd s) 252).length=252:=by
    have:(mx id ep kd s).length=20+s.length:=by unfold mx;simp[fN,qu];omega
    unfold ft;rw[aT,eR];omega
   refine⟨?_,gj⟩;show(lF id ep kd s).length=256;unfold lF ke.bT;rw[aT,h1];simp[ke.jL]
 .simp at h
theorem EW{w:YB}{L:Dk.Loc}(h:bf w L n d)(id ep kd:Int)(s:rd)(hid:id<=9223372036854775807)(he:(eg id ep kd s.data.toList).2≠0\/(cH n:Int)<=id):
  eq prog 225 #[dp L.b,jN id ep kd s] w λe w'=>e=BY (U5 By (bt d n id ep kd s.data.toList).2)/\bf w' L n (bt d n id ep kd s.data.toList).1/\i7 w w':=by
 have O0:=xh<|i6 w (WF #[id,ep,kd,U2 s] 162);have B0:=xh<|aF.new w 162 #[id,ep,kd,U2 s];have K:=xh (λw=>Ju (w:=w) id ep kd s hid);have KM:=xh (λw' (hb:i7 w w')=>pk (h.below hb));have HD:=xh h;have c0:=B0.ap 0
 have EY:((eg id ep kd s.data.toList).2≠0/\bt d n id ep kd s.data.toList=(d,(eg id ep kd s.data.toList).2))\/((eg id ep kd s.data.toList).2=0/\(cH n:Int)<=id/\bt d n id ep kd s.data.toList=(d,3)):=by
  by_cases h1:(eg id ep kd s.data.toList).2=0
  .have h2:=he.resolve_left (λh=>h h1);right;refine⟨h1,h2,?_⟩;unfold bt;rw[if_neg (by simpa using h1),if_pos h2]
  .left;refine⟨h1,?_⟩;unfold bt;rw[if_pos h1]
 generalize (eg id ep kd s.data.toList).2=er at *;generalize (⟨(eg id ep kd s.data.toList).1.toArray⟩:rd)=S at *;generalize bt d n id ep kd s.data.toList=R at *;generalize cH n=mn at *;unfold jN dp at *
 rcases EY with⟨h1,h2⟩|⟨h1,h3,h2⟩
 .subst h2;have hb:(er != 0)=true:=ls h1
  go_in;go_wp;go_call (K.o _) as e w1 ⟨rfl,aO⟩;have O1:=xh<|aC O0.o aO;go_wp2;go_ret;exact⟨rfl,HD.o.below O1.o,O1.o⟩
 .subst h2;subst h1;go_in;go_wp;go_call (K.o _) as e w1 ⟨rfl,aO⟩;have O1:=xh<|aC O0.o aO;have B1:=xh<|B0.o.below aO B0.o.lt;clear aO c0;have c0:=B1.ap 0;go_wp2_with fail;go_quiet ((go_at_call 136;exact AV ((xh (λm=>KM.o (w1.drewN m) (de O1.o m))).o _)));go_wp2;go_ret;exact⟨rfl,HD.o.below (de O1.o _),de O1.o _⟩
variable{w:YB}{L:Dk.Loc}{n:Nat}{d:D}
theorem Hl(a0 a1 a2 a3:Int)(w:YB)(k:Nat)(x:YO)(hx: #[Value.int By a0,a1,a2,a3][k]?=some x):
  (Instr.index 244 (.agg #[a0,a1,a2,a3]) (k:Int)).run prog w=.ok x w:=by
 have hm:(prog.info? 3).map (·.size)=some 1:=by kernel_rfl
 have hp:prog.plainKey 3=true:=by kernel_rfl
 have hk:k<4:=by
  rcases fC k 4 with h|h
  .exact h
  .rw[VU (by simpa using h)]at hx;cases hx
 cases hq:prog.info? 3 with
 |none=>simp[hq]at hm
 |some i=>
  simp only[hq,mf,Option.some.injEq]at hm;have:=run_part_plain (P:=prog) w hp hx;simp[Instr.index,asIntOf,run_underlying (by kernel_rfl),hk,sizeOf,typeInfo,hq,hm];exact this
theorem NI(h:bf w L n d)(id:Nat)(ep kd:Int)(s:rd)(hp:(eg id ep kd s.data.toList).2=0)(hm:id<cH n)(hc:d.calls<=3999999999999999990)(hr:d.bu<=9223372036854775807):
  eq prog 225 #[dp L.b,jN id ep kd s] w λe w'=>e=BY (U5 By (w4 d n (2+4*id) (eg id ep kd s.data.toList).1 4).2)/\bf w' L n (w4 d n (2+4*id) (eg id ep kd s.data.toList).1 4).1/\ag L.fp w w':=by
 have hn:=h.ok.small;have hmn:cH n<=1023:=by unfold cH;omega
 have O0:=xh<|i6 w (WF #[(id:Nat),ep,kd,U2 s] 162);have B0:=xh<|aF.new w 162 #[(id:Nat),ep,kd,U2 s];have K:=λw=>Ju (w:=w) id ep kd s (by omega);have hlen:=(Bi hp).1;rw[hp]at K;obtain⟨T,hT⟩:∃T:rd,(⟨(eg id ep kd s.data.toList).1.toArray⟩:rd)=T:=⟨_,rfl⟩;rw[hT]at K;have MP:T.data.toList=(eg id ep kd s.data.toList).1:=by rw[<-hT]
 have hTs:T.size=256:=by rw[<-hT,jk,hlen]
 rw[<-MP];have HX:=g9 (∀i:Nat,(T.extract (64*i) (64*(i+1))).data.toList=(T.data.toList.drop (64*i)).take 64) (λi=>by rw[exl,show 64*(i+1)-64*i=64 by omega]);have K:=xh K;have KM:=xh (λw' (hb:i7 w w')=>pk (h.below hb));have KS:=xh (λw=>qy (w:=w) id (by omega));have HB:=xh<|WC d n (2+4*id) T.data.toList hr;have H4:=xh<|WB d n (2+4*id) T.data.toList;have HS:=xh<|QY d n (2+4*id) T.data.toList
 have HC:=xh hc;have HD:=xh h;have hmI:¬((cH n:Nat):Int)<=(id:Int):=by omega
 have c0:=B0.ap 0;have c1:=B0.ap 1;have c2:=B0.ap 2;have c3:=B0.ap 3;generalize cH n=mn at *;clear h hp hT MP hlen hc hr;unfold jN dp rz at *;generalize hk:2+4*id=k at *;clear hk;go_in;go_wp2_with fail;go_call (K.o _) as e w1 ⟨rfl,aO⟩;have O1:=xh<|aC O0.o aO;have B1:=xh<|B0.o.below aO B0.o.lt;clear aO c0 c1 c2 c3 K
 have c0:=B1.ap 0;have KX:=xh (λm=>KM.o (w1.drewN m) (de O1.o m));go_wp2_with fail;go_quiet ((go_at_call 136;exact AV (KX.o _)));have O2:=xh<|de O1.o nq;have B2:=xh<|B1.o.drewN nq;generalize Ee:w1.drewN nq=w2 at *;clear c0 O1 B1 Ee KX KM;have c0:=B2.ap 0;go_wp2_with fail;go_call (KS.o _) as e w3 ⟨rfl,dk⟩;have O3:=xh<|aC O2.o dk;have D3:=xh<|HD.o.below O3.o
 clear dk c0 KS O2 B2;go_wp2_with fail
 go_loopw [30] (λiv wr=> ∃i:Nat,i<=4/\iv=U5 By i/\Hid (bf wr L n (w4 d n k T.data.toList i).1)/\Hid ((w4 d n k T.data.toList i).2=0)/\Hid (ag L.fp w wr)) (λiv _=>4-(intOf iv).toNat)
 case atStart=>exact⟨0,by omega,rfl,D3,xh rfl,xh (.aj O3.o)⟩
 case round=>
  obtain⟨i,hi,rfl,DD,EZ,O⟩:=hrel;have ii:i=0\/i=1\/i=2\/i=3\/i=4:=by omega
  rcases ii with rfl|rfl|rfl|rfl|rfl
  .have bd:=HB.o 0;have KW:=lM DD.o ((k:Int)) (T.extract 0 64) (by have:=HC.o;omega) (by omega);have hx:=HX.o 0;have h4:=H4.o 0 EZ.o;rw[show(T.extract 0 64).data.toList=(T.data.toList.drop (64*0)).take 64 from hx,show((k:Int))=(k:Int)+((0:Nat):Int)from by omega,<-h4,show(k:Int)+((0:Nat):Int)=(k:Int)from by omega]at KW;have KW:=xh KW;clear hx h4 bd
   have IX:=xh (show(Instr.index 244 (.agg #[(k:Int),U5 By ((k:Int)+1),U5 By ((k:Int)+2),U5 By ((k:Int)+3)]) (U5 By 0)).run prog wr=.ok (U5 By ((k:Int))) wr from Hl (k:Int) ((k:Int)+1) ((k:Int)+2) ((k:Int)+3) wr 0 _ rfl);go_wp2_with fail;rw[IX.o];go_wp2_with fail;go_call KW.o as e wz ⟨rfl,dd,oz⟩;have DZ:=xh dd;have OZ:=xh<|O.o.trans oz;clear dd oz KW
   by_cases hz:(w4 d n k T.data.toList 1).2=0
   .have HZ:=xh hz;have hq:((w4 d n k T.data.toList 1).2 != 0)=false:=by rw[hz];rfl
    clear hz;go_wp2_with fail;go_roundw
    case rel=>exact⟨1,by omega,by first|rfl|simp,DZ,HZ,OZ⟩
    case measure=>first|decide|simp[intOf]
   .have hs:=HS.o 1 4 hz (by omega);have WD:=xh hs;have hq:((w4 d n k T.data.toList 1).2 != 0)=true:=ls hz
    clear hz hs;go_wp2;go_ret;exact⟨by first|rfl|(rw[WD.o];rfl),by first|exact DZ.o|(rw[WD.o];exact DZ.o),OZ.o⟩
  .have bd:=HB.o 1;have KW:=lM DD.o ((k:Int)+1) (T.extract 64 128) (by have:=HC.o;omega) (by omega);have hx:=HX.o 1;have h4:=H4.o 1 EZ.o;rw[show(T.extract 64 128).data.toList=(T.data.toList.drop (64*1)).take 64 from hx,show((k:Int)+1)=(k:Int)+((1:Nat):Int)from by omega,<-h4,show(k:Int)+((1:Nat):Int)=(k:Int)+1 from by omega]at KW;have KW:=xh KW;clear hx h4 bd
   have IX:=xh (show(Instr.index 244 (.agg #[(k:Int),U5 By ((k:Int)+1),U5 By ((k:Int)+2),U5 By ((k:Int)+3)]) (U5 By 1)).run prog wr=.ok (U5 By ((k:Int)+1)) wr from Hl (k:Int) ((k:Int)+1) ((k:Int)+2) ((k:Int)+3) wr 1 _ rfl);go_wp2_with fail;rw[IX.o];go_wp2_with fail;go_call KW.o as e wz ⟨rfl,dd,oz⟩;have DZ:=xh dd;have OZ:=xh<|O.o.trans oz;clear dd oz KW
   by_cases hz:(w4 d n k T.data.toList 2).2=0
   .have HZ:=xh hz;have hq:((w4 d n k T.data.toList 2).2 != 0)=false:=by rw[hz];rfl
    clear hz;go_wp2_with fail;go_roundw
    case rel=>exact⟨2,by omega,by first|rfl|simp,DZ,HZ,OZ⟩
    case measure=>first|decide|simp[intOf]
   .have hs:=HS.o 2 4 hz (by omega);have WD:=xh hs;have hq:((w4 d n k T.data.toList 2).2 != 0)=true:=ls hz
    clear hz hs;go_wp2;go_ret;exact⟨by first|rfl|(rw[WD.o];rfl),by first|exact DZ.o|(rw[WD.o];exact DZ.o),OZ.o⟩
  .have bd:=HB.o 2;have KW:=lM DD.o ((k:Int)+2) (T.extract 128 192) (by have:=HC.o;omega) (by omega);have hx:=HX.o 2;have h4:=H4.o 2 EZ.o;rw[show(T.extract 128 192).data.toList=(T.data.toList.drop (64*2)).take 64 from hx,show((k:Int)+2)=(k:Int)+((2:Nat):Int)from by omega,<-h4,show(k:Int)+((2:Nat):Int)=(k:Int)+2 from by omega]at KW;have KW:=xh KW;clear hx h4 bd
   have IX:=xh (show(Instr.index 244 (.agg #[(k:Int),U5 By ((k:Int)+1),U5 By ((k:Int)+2),U5 By ((k:Int)+3)]) (U5 By 2)).run prog wr=.ok (U5 By ((k:Int)+2)) wr from Hl (k:Int) ((k:Int)+1) ((k:Int)+2) ((k:Int)+3) wr 2 _ rfl);go_wp2_with fail;rw[IX.o];go_wp2_with fail;go_call KW.o as e wz ⟨rfl,dd,oz⟩;have DZ:=xh dd;have OZ:=xh<|O.o.trans oz;clear dd oz KW
   by_cases hz:(w4 d n k T.data.toList 3).2=0
   .have HZ:=xh hz;have hq:((w4 d n k T.data.toList 3).2 != 0)=false:=by rw[hz];rfl
    clear hz;go_wp2_with fail;go_roundw
    case rel=>exact⟨3,by omega,by first|rfl|simp,DZ,HZ,OZ⟩
    case measure=>first|decide|simp[intOf]
   .have hs:=HS.o 3 4 hz (by omega);have WD:=xh hs;have hq:((w4 d n k T.data.toList 3).2 != 0)=true:=ls hz
    clear hz hs;go_wp2;go_ret;exact⟨by first|rfl|(rw[WD.o];rfl),by first|exact DZ.o|(rw[WD.o];exact DZ.o),OZ.o⟩
  .have bd:=HB.o 3;have KW:=lM DD.o ((k:Int)+3) (T.extract 192 256) (by have:=HC.o;omega) (by omega);have hx:=HX.o 3;have h4:=H4.o 3 EZ.o;rw[show(T.extract 192 256).data.toList=(T.data.toList.drop (64*3)).take 64 from hx,show((k:Int)+3)=(k:Int)+((3:Nat):Int)from by omega,<-h4,show(k:Int)+((3:Nat):Int)=(k:Int)+3 from by omega]at KW;have KW:=xh KW;clear hx h4 bd
   have IX:=xh (show(Instr.index 244 (.agg #[(k:Int),U5 By ((k:Int)+1),U5 By ((k:Int)+2),U5 By ((k:Int)+3)]) (U5 By 3)).run prog wr=.ok (U5 By ((k:Int)+3)) wr from Hl (k:Int) ((k:Int)+1) ((k:Int)+2) ((k:Int)+3) wr 3 _ rfl);go_wp2_with fail;rw[IX.o];go_wp2_with fail;go_call KW.o as e wz ⟨rfl,dd,oz⟩;have DZ:=xh dd;have OZ:=xh<|O.o.trans oz;clear dd oz KW
   by_cases hz:(w4 d n k T.data.toList 4).2=0
   .have HZ:=xh hz;have hq:((w4 d n k T.data.toList 4).2 != 0)=false:=by rw[hz];rfl
    clear hz;go_wp2_with fail;go_roundw
    case rel=>exact⟨4,by omega,by first|rfl|simp,DZ,HZ,OZ⟩
    case measure=>first|decide|simp[intOf]
   .have hs:=HS.o 4 4 hz (by omega);have WD:=xh hs;have hq:((w4 d n k T.data.toList 4).2 != 0)=true:=ls hz
    clear hz hs;go_wp2;go_ret;exact⟨by first|rfl|(rw[WD.o];rfl),by first|exact DZ.o|(rw[WD.o];exact DZ.o),OZ.o⟩
  .go_wp2;go_ret;exact⟨by rw[EZ.o];rfl,DD.o,O.o⟩
theorem NJ(h:bf w L n d)(id ep kd:Int)(s:rd)(hid:id<=9223372036854775807)(hc:d.calls<=3999999999999999990)(hr:d.bu<=9223372036854775807):
  eq prog 225 #[dp L.b,jN id ep kd s] w λe w'=>e=BY (U5 By (bt d n id ep kd s.data.toList).2)/\bf w' L n (bt d n id ep kd s.data.toList).1/\ag L.fp w w':=by
 by_cases hp:(eg id ep kd s.data.toList).2=0
 .by_cases hm:(cH n:Int)<=id
  .exact(EW h id ep kd s hid (.inr hm)).mono λe w' hx=>⟨hx.1,hx.2.1,.aj hx.2.2⟩
  .obtain⟨a,rfl⟩:=dZ ((qs id ep kd).1 (Bi hp).2).1;have e1:bt d n a ep kd s.data.toList=w4 d n (2+4*a) (eg a ep kd s.data.toList).1 4:=by
    unfold bt;rw[if_neg (by simpa using hp),if_neg hm];rfl
   rw[e1];exact NI h a ep kd s hp (by omega) hc hr
 .exact(EW h id ep kd s hid (.inl hp)).mono λe w' hx=>⟨hx.1,hx.2.1,.aj hx.2.2⟩
attribute [local go_sem ↓] xA
variable{w:YB}{L:Dk.Loc}{n:Nat}{d:D}
def bw(d:D)(n:Nat)(id:Int):PG×Int:=
 if id<0\/(cH n:Int)<=id then(.zero,3)
 else if d.down=true then(.zero,13)
 else if(kn ((d.now.drop (64*(2+4*id.toNat))).take 256)).2≠0 then(.zero,(kn ((d.now.drop (64*(2+4*id.toNat))).take 256)).2)
 else if(kn ((d.now.drop (64*(2+4*id.toNat))).take 256)).1.id≠id then(.zero,14)
 else((kn ((d.now.drop (64*(2+4*id.toNat))).take 256)).1,0)
theorem rA(F:pu)(k i:Nat):(F.drop (64*k)).take (64*(i+1))=(F.drop (64*k)).take (64*i)++sec F (k+i):=by
 unfold sec;rw[show 64*(i+1)=64*i+64 by omega,List.take_add,ji,show 64*k+64*i=64*(k+i) by omega]
theorem Hm(d:D)(n:Nat)(k:Nat)(h:k<n):d.kq n k=if d.down=true then 13 else 0:=by
 unfold D.kq;rw[if_pos (show 0<=(k:Int)/\(k:Int)<n by omega)]
theorem NK(d:D)(n:Nat)(k:Nat)(h:k<n)(hd:d.down=true):d.aP n k=([],13):=by
 unfold D.aP;rw[Hm d n k h,if_pos hd];rfl
theorem WE(d:D)(n:Nat)(k:Nat)(h:k<n)(hd:d.down=false):d.aP n k=(sec d.now k,0):=by
 unfold D.aP;rw[Hm d n k h];simp[hd]
theorem Td(b:Nat)(id:Int)(h:id<0):
  eq prog 139 #[dp b,id] w λe w'=>e=BY (U8 #[PG.zero.val,U5 By 3])/\i7 w w':=by
 unfold dp;go_in;go_wp;exact bodyPost_ret (eF rfl rfl (xh<|aF.new w 162 kT).o) rfl ⟨rfl,(xh<|i6 w (WF kT 162)).o⟩
theorem Te(hd:bf w L n d)(id:Int)(h0:0<=id)(h:(cH n:Int)<=id):
  eq prog 139 #[dp L.b,id] w λe w'=>e=BY (U8 #[PG.zero.val,U5 By 3])/\i7 w w':=by
 have B0:=xh<|aF.new w 162 kT;have O0:=i6 w (WF kT 162);have K:=xh<|pk (hd.below O0);have O0:=xh O0
 unfold dp at *;go_in;go_wp
 go_call K.o as e w1 ⟨rfl,rfl⟩;go_wp2_with fail;exact bodyPost_ret (eF rfl rfl B0.o) rfl ⟨rfl,O0.o⟩
theorem NL(hd:bf w L n d)(id:Nat)(h:id<cH n)(hdn:d.down=true):
  eq prog 139 #[dp L.b,(id:Nat)] w λe w'=>e=BY (U8 #[PG.zero.val,U5 By 13])/\i7 w w':=by
 have hn:=hd.ok.small
 have En:2+4*id<n:=by unfold cH at h;omega
 have B0:=xh<|aF.new w 162 kT;have O0:=i6 w (WF kT 162);have K:=xh<|pk (hd.below O0);have O0:=xh O0;have KS:=xh (λw=>qy (w:=w) id (by omega));have KR:=λw' (hb:i7 w w')=>ph (hd.below hb) ((2+4*id:Nat):Int);rw[NK d n _ En hdn]at KR;have KR:=xh KR
 generalize cH n=mn at *;generalize 2+4*id=k at *;unfold dp rz at *;go_in;go_wp;go_call K.o as e w1 ⟨rfl,rfl⟩;go_wp2_with fail;go_call (KS.o _) as e w2 ⟨rfl,cf⟩;have O2:=xh<|aC O0.o cf;have B2:=xh<|B0.o.below cf B0.o.lt;have z0:=B2.o.frozen 0 (by simp);have z1:=B2.o.frozen 1 (by simp);have z2:=B2.o.frozen 2 (by simp);have z3:=B2.o.frozen 3 (by simp)
 have c0:=B2.ap 0;have c1:=B2.ap 1;have c2:=B2.ap 2;have c3:=B2.ap 3
 have IX:=xh (show(Instr.index 244 (.agg #[(k:Int),U5 By ((k:Int)+1),U5 By ((k:Int)+2),U5 By ((k:Int)+3)]) (U5 By 0)).run prog w2=.ok (k:Int) w2 from Hl (k:Int) ((k:Int)+1) ((k:Int)+2) ((k:Int)+3) w2 0 _ rfl);go_wp2_with fail
 go_loopw [6,29] (λbv iv wr=>bv=U3 none 0 0/\iv=U5 By 0/\wr=w2) (λ_ _ _=>0)
 case atStart=>exact⟨rfl,rfl,rfl⟩
 case round=>
  obtain⟨rfl,rfl,rfl⟩:=hrel;go_wp;rw[IX.o];go_wp2_with fail;go_call (KR.o _ O2.o) as e w3 ⟨rfl,rfl⟩;go_wp2_with fail;exact bodyPost_ret (eF rfl rfl (xh<|ko B2.o rfl 0 0 0 ⟨#[]⟩).o) rfl ⟨rfl,(xh<|gW O2.o (ai _) 0 0 0 ⟨#[]⟩).o⟩
theorem WG(hd:bf w L n d)(id:Nat)(h:id<cH n)(hdn:d.down=false):
  eq prog 139 #[dp L.b,(id:Nat)] w λe w'=>e=BY (U8 #[(bw d n id).1.val,U5 By (bw d n id).2])/\i7 w w':=by
 have hn:=hd.ok.small;have hnow:=hd.ok.now;have hmn:cH n<=1023:=by unfold cH;omega
 have En:2+4*id+3<n:=by unfold cH at h;omega
 have B0:=xh<|aF.new w 162 kT;have O0:=i6 w (WF kT 162);have K:=xh<|pk (hd.below O0);have O0:=xh O0;have KS:=xh (λw=>qy (w:=w) id (by omega));have KR:=λi (hi:i<=3) w' (hb:i7 w w')=>by
  have h:=ph (hd.below hb) ((2+4*id+i:Nat):Int);rw[WE d n _ (by omega) hdn]at h;exact h
 have KR:=xh KR;obtain⟨l,hl⟩:∃l,(d.now.drop (64*(2+4*id))).take 256=l:=⟨_,rfl⟩;have Eo:bw d n id=if(kn l).2≠0 then(.zero,(kn l).2)else if(kn l).1.id≠(id:Int)then(.zero,14)else((kn l).1,0):=by
  unfold bw;rw[gc,if_neg (by simp[hdn]),show((id:Nat):Int).toNat=id from by omega,hl]
 generalize bw d n id=R at *;have HR:=xh Eo;have Tf:=xh (show((d.now.drop (64*(2+4*id))).take 256).length=256 from by rw[bC,ev];omega);have HNX:=xh<|rA d.now (2+4*id);have HL:=xh hl;have KG:=xh (λw=>Wv (w:=w) ⟨l.toArray⟩)
 have HSZ:=g9 (∀i,i<=3->(sec d.now (2+4*id+i)).length=64) (λi hi=>nO hnow (by omega))
 generalize cH n=mn at *;generalize 2+4*id=k at *;unfold dp rz at *;go_in;go_wp2_with fail;go_call K.o as e w1 ⟨rfl,rfl⟩;go_wp2_with fail;go_call (KS.o _) as e w2 ⟨rfl,cf⟩;have O2:=xh<|aC O0.o cf;have B2:=xh<|B0.o.below cf B0.o.lt;clear cf B0 O0 K KS;go_wp2_with fail
 go_loopw [6,29] (λbv iv wr=> ∃i:Nat,i<=4/\iv=U5 By i/\aM wr 5 1 bv (64*i) (dR ((d.now.drop (64*k)).take (64*i)))/\Hid (i7 w wr)/\Hid (i7 w2 wr)/\Hid (∀g∈ah bv,w2.heap.size<=g)) (λ_ iv _=>4-(intOf iv).toNat)
 case atStart=>exact⟨0,by omega,rfl,by rw[vG,jA];exact aM.nil _ _ _,O2,xh (Below.refl _ _),xh (by simp[ah])⟩
 case round=>
  obtain⟨i,hi,rfl,S,O,OB,F⟩:=hrel;have ii:i=0\/i=1\/i=2\/i=3\/i=4:=by omega
  rcases ii with rfl|rfl|rfl|rfl|rfl
  .have hr:=KR.o 0 (by omega) _ O.o;rw[show((k+0:Nat):Int)=(k:Int)from by omega]at hr;have WH:=xh hr;have S:aM wr 5 1 _ 0 (dR ((d.now.drop (64*k)).take 0)):=S;obtain⟨V1,Ek,rfl⟩:=ax S;obtain⟨U,hU⟩:∃U:rd,(⟨(sec d.now (k+0)).toArray⟩:rd)=U:=⟨_,rfl⟩;rw[hU]at WH;have Jt:U.data.toList=sec d.now (k+0):=by rw[<-hU]
   have Vx:U.size=64:=by rw[<-hU,jk];exact HSZ.o 0 (by omega)
   obtain⟨v2,w4,ea,S2,ow,fr⟩:=lL (P:=prog) S 150 9 150 underlying150 underlying9 ke.eV U (by rw[Vx];omega);obtain⟨V2,jh,rfl⟩:=ax S2;rw[Vx]at ea S2 fr;have EA:=g9 (rq prog 150 9 150 wr (U3 V1 0 Ek) (U2 U)= .ok (U3 V2 64 jh) w4) ea;have SX:=xh (show aM w4 5 1 (U3 V2 64 jh) (64*1) (dR ((d.now.drop (64*k)).take (64*1)))from by
    have hn:=HNX.o 0;rw[show 64*(0+1)=64*1 from rfl,<-Jt]at hn;rw[hn,dD];exact S2)
   have OX:=xh<|O.o.trans (ow.aK O.o.size (λg hg=>aq O2.o.size (F.o g hg)));have OBX:=xh<|OB.o.trans (ow.aK OB.o.size F.o);have FX:=g9 (∀g∈ah (U3 V2 64 jh),w2.heap.size<=g) (λg hg=>(fr g hg).elim (F.o g) (λh=>aq OB.o.size h))
   have IX:=xh (show(Instr.index 244 (.agg #[(k:Int),U5 By ((k:Int)+1),U5 By ((k:Int)+2),U5 By ((k:Int)+3)]) (U5 By 0)).run prog wr=.ok (U5 By ((k:Int))) wr from Hl (k:Int) ((k:Int)+1) ((k:Int)+2) ((k:Int)+3) wr 0 _ rfl);clear hr ea S2 ow fr S hU Jt;go_wp2_with fail;rw[IX.o];go_wp2_with fail;go_call WH.o as e wz ⟨rfl,rfl⟩;go_wp2_with fail;rw[EA.o];go_wp2_with fail;go_roundw
   case rel=>exact⟨1,by omega,by first|rfl|simp,SX.o,OX,OBX,FX⟩
   case measure=>first|decide|simp[intOf]
  .have hr:=KR.o 1 (by omega) _ O.o;rw[show((k+1:Nat):Int)=(k:Int)+1 from by omega]at hr;have WH:=xh hr;have S:aM wr 5 1 _ 64 (dR ((d.now.drop (64*k)).take 64)):=S;obtain⟨V1,Ek,rfl⟩:=ax S;obtain⟨U,hU⟩:∃U:rd,(⟨(sec d.now (k+1)).toArray⟩:rd)=U:=⟨_,rfl⟩;rw[hU]at WH;have Jt:U.data.toList=sec d.now (k+1):=by rw[<-hU]
   have Vx:U.size=64:=by rw[<-hU,jk];exact HSZ.o 1 (by omega)
   obtain⟨v2,w4,ea,S2,ow,fr⟩:=lL (P:=prog) S 150 9 150 underlying150 underlying9 ke.eV U (by rw[Vx];omega);obtain⟨V2,jh,rfl⟩:=ax S2;rw[Vx]at ea S2 fr;have EA:=g9 (rq prog 150 9 150 wr (U3 V1 64 Ek) (U2 U)= .ok (U3 V2 128 jh) w4) ea;have SX:=xh (show aM w4 5 1 (U3 V2 128 jh) (64*2) (dR ((d.now.drop (64*k)).take (64*2)))from by
    have hn:=HNX.o 1;rw[show 64*(1+1)=64*2 from rfl,<-Jt]at hn;rw[hn,dD];exact S2)
   have OX:=xh<|O.o.trans (ow.aK O.o.size (λg hg=>aq O2.o.size (F.o g hg)));have OBX:=xh<|OB.o.trans (ow.aK OB.o.size F.o);have FX:=g9 (∀g∈ah (U3 V2 128 jh),w2.heap.size<=g) (λg hg=>(fr g hg).elim (F.o g) (λh=>aq OB.o.size h))
   have IX:=xh (show(Instr.index 244 (.agg #[(k:Int),U5 By ((k:Int)+1),U5 By ((k:Int)+2),U5 By ((k:Int)+3)]) (U5 By 1)).run prog wr=.ok (U5 By ((k:Int)+1)) wr from Hl (k:Int) ((k:Int)+1) ((k:Int)+2) ((k:Int)+3) wr 1 _ rfl);clear hr ea S2 ow fr S hU Jt;go_wp2_with fail;rw[IX.o];go_wp2_with fail;go_call WH.o as e wz ⟨rfl,rfl⟩;go_wp2_with fail;rw[EA.o];go_wp2_with fail;go_roundw
   case rel=>exact⟨2,by omega,by first|rfl|simp,SX.o,OX,OBX,FX⟩
   case measure=>first|decide|simp[intOf]
  .have hr:=KR.o 2 (by omega) _ O.o;rw[show((k+2:Nat):Int)=(k:Int)+2 from by omega]at hr;have WH:=xh hr;have S:aM wr 5 1 _ 128 (dR ((d.now.drop (64*k)).take 128)):=S;obtain⟨V1,Ek,rfl⟩:=ax S;obtain⟨U,hU⟩:∃U:rd,(⟨(sec d.now (k+2)).toArray⟩:rd)=U:=⟨_,rfl⟩;rw[hU]at WH;have Jt:U.data.toList=sec d.now (k+2):=by rw[<-hU]
   have Vx:U.size=64:=by rw[<-hU,jk];exact HSZ.o 2 (by omega)
   obtain⟨v2,w4,ea,S2,ow,fr⟩:=lL (P:=prog) S 150 9 150 underlying150 underlying9 ke.eV U (by rw[Vx];omega);obtain⟨V2,jh,rfl⟩:=ax S2;rw[Vx]at ea S2 fr;have EA:=g9 (rq prog 150 9 150 wr (U3 V1 128 Ek) (U2 U)= .ok (U3 V2 192 jh) w4) ea;have SX:=xh (show aM w4 5 1 (U3 V2 192 jh) (64*3) (dR ((d.now.drop (64*k)).take (64*3)))from by
    have hn:=HNX.o 2;rw[show 64*(2+1)=64*3 from rfl,<-Jt]at hn;rw[hn,dD];exact S2)
   have OX:=xh<|O.o.trans (ow.aK O.o.size (λg hg=>aq O2.o.size (F.o g hg)));have OBX:=xh<|OB.o.trans (ow.aK OB.o.size F.o);have FX:=g9 (∀g∈ah (U3 V2 192 jh),w2.heap.size<=g) (λg hg=>(fr g hg).elim (F.o g) (λh=>aq OB.o.size h))
   have IX:=xh (show(Instr.index 244 (.agg #[(k:Int),U5 By ((k:Int)+1),U5 By ((k:Int)+2),U5 By ((k:Int)+3)]) (U5 By 2)).run prog wr=.ok (U5 By ((k:Int)+2)) wr from Hl (k:Int) ((k:Int)+1) ((k:Int)+2) ((k:Int)+3) wr 2 _ rfl);clear hr ea S2 ow fr S hU Jt;go_wp2_with fail;rw[IX.o];go_wp2_with fail;go_call WH.o as e wz ⟨rfl,rfl⟩;go_wp2_with fail;rw[EA.o];go_wp2_with fail;go_roundw
   case rel=>exact⟨3,by omega,by first|rfl|simp,SX.o,OX,OBX,FX⟩
   case measure=>first|decide|simp[intOf]
  .have hr:=KR.o 3 (by omega) _ O.o;rw[show((k+3:Nat):Int)=(k:Int)+3 from by omega]at hr;have WH:=xh hr;have S:aM wr 5 1 _ 192 (dR ((d.now.drop (64*k)).take 192)):=S;obtain⟨V1,Ek,rfl⟩:=ax S;obtain⟨U,hU⟩:∃U:rd,(⟨(sec d.now (k+3)).toArray⟩:rd)=U:=⟨_,rfl⟩;rw[hU]at WH;have Jt:U.data.toList=sec d.now (k+3):=by rw[<-hU]
   have Vx:U.size=64:=by rw[<-hU,jk];exact HSZ.o 3 (by omega)
   obtain⟨v2,w4,ea,S2,ow,fr⟩:=lL (P:=prog) S 150 9 150 underlying150 underlying9 ke.eV U (by rw[Vx];omega);obtain⟨V2,jh,rfl⟩:=ax S2;rw[Vx]at ea S2 fr;have EA:=g9 (rq prog 150 9 150 wr (U3 V1 192 Ek) (U2 U)= .ok (U3 V2 256 jh) w4) ea;have SX:=xh (show aM w4 5 1 (U3 V2 256 jh) (64*4) (dR ((d.now.drop (64*k)).take (64*4)))from by
    have hn:=HNX.o 3;rw[show 64*(3+1)=64*4 from rfl,<-Jt]at hn;rw[hn,dD];exact S2)
   have OX:=xh<|O.o.trans (ow.aK O.o.size (λg hg=>aq O2.o.size (F.o g hg)));have OBX:=xh<|OB.o.trans (ow.aK OB.o.size F.o);have FX:=g9 (∀g∈ah (U3 V2 256 jh),w2.heap.size<=g) (λg hg=>(fr g hg).elim (F.o g) (λh=>aq OB.o.size h))
   have IX:=xh (show(Instr.index 244 (.agg #[(k:Int),U5 By ((k:Int)+1),U5 By ((k:Int)+2),U5 By ((k:Int)+3)]) (U5 By 3)).run prog wr=.ok (U5 By ((k:Int)+3)) wr from Hl (k:Int) ((k:Int)+1) ((k:Int)+2) ((k:Int)+3) wr 3 _ rfl);clear hr ea S2 ow fr S hU Jt;go_wp2_with fail;rw[IX.o];go_wp2_with fail;go_call WH.o as e wz ⟨rfl,rfl⟩;go_wp2_with fail;rw[EA.o];go_wp2_with fail;go_roundw
   case rel=>exact⟨4,by omega,by first|rfl|simp,SX.o,OX,OBX,FX⟩
   case measure=>first|decide|simp[intOf]
  .have ST:=xh<|Hd (P:=prog) S 150 9 underlying150 underlying5 underlying9;rw[show 64*4=256 from rfl,HL.o]at ST;obtain⟨VA,vc,rfl⟩:=ax S;have B3:=xh<|B2.o.below OB.o B2.o.lt;clear S;go_wp2_with fail;rw[ST.o];go_wp2_with fail;go_call (KG.o _) as e w5 ⟨rfl,mK⟩;obtain⟨P,hP⟩:∃P,(kn l).1=P:=⟨_,rfl⟩;obtain⟨er,vN⟩:∃er,(kn l).2=er:=⟨_,rfl⟩;have GP:=xh<|And.intro hP vN;rw[hP,vN];clear hP vN;obtain⟨pid,pep,pkd,ps⟩:=P
   have O6:=xh<|ae (aC O.o mK) (WF #[pid,pep,pkd,U2 ⟨ps.toArray⟩] 162);have B6:=xh<|(B3.o.below mK B3.o.lt).alloc (WF #[pid,pep,pkd,U2 ⟨ps.toArray⟩] 162);have P6:=xh<|aF.new w5 162 #[pid,pep,pkd,U2 ⟨ps.toArray⟩];clear mK B3;unfold PG.val jN;dsimp only;have z0:=B6.o.frozen 0 (by simp);have z1:=B6.o.frozen 1 (by simp)
   have z2:=B6.o.frozen 2 (by simp);have z3:=B6.o.frozen 3 (by simp);have c0:=B6.ap 0;have c1:=B6.ap 1;have c2:=B6.ap 2;have c3:=B6.ap 3;have p0:=P6.ap 0;have p1:=P6.ap 1;have p2:=P6.ap 2;have ZB:=xh<|ko B6.o rfl 0 0 0 ⟨#[]⟩;have ZO:=xh<|gW O6.o (ai _) 0 0 0 ⟨#[]⟩
   by_cases vN:er=0
   .subst vN
    by_cases hpi:pid=id
    .have hq:(pid != (id:Int))=false:=by rw[bne_eq_false_iff_eq];exact hpi
     have RES:=xh (show(if(kn l).2≠0 then(PG.zero,(kn l).2)else if(kn l).1.id≠(id:Int)then(PG.zero,14)else((kn l).1,0))=(⟨pid,pep,pkd,ps⟩,0)from by
      rw[GP.o.1,GP.o.2];simp[hpi])
     clear hpi;go_wp2_with fail;exact bodyPost_ret (eF rfl rfl (xh<|ko B6.o rfl pid pep pkd ⟨ps.toArray⟩).o) rfl ⟨by rw[HR.o.trans RES.o];rfl,(xh<|gW O6.o (ai _) pid pep pkd ⟨ps.toArray⟩).o⟩
    .have hq:(pid != (id:Int))=true:=ls hpi
     have RES:=xh (show(if(kn l).2≠0 then(PG.zero,(kn l).2)else if(kn l).1.id≠(id:Int)then(PG.zero,14)else((kn l).1,0))=(PG.zero,14)from by
      rw[GP.o.1,GP.o.2];simp[hpi])
     clear hpi;go_wp2_with fail;exact bodyPost_ret (eF rfl rfl ZB.o) rfl ⟨by rw[HR.o.trans RES.o];rfl,ZO.o⟩
   .have hq:(er != 0)=true:=ls vN
    have RES:=xh (show(if(kn l).2≠0 then(PG.zero,(kn l).2)else if(kn l).1.id≠(id:Int)then(PG.zero,14)else((kn l).1,0))=(PG.zero,er)from by
     rw[GP.o.1,GP.o.2,if_pos vN])
    clear vN;go_wp2_with fail;exact bodyPost_ret (eF rfl rfl ZB.o) rfl ⟨by rw[HR.o.trans RES.o];rfl,ZO.o⟩
theorem Tg(hd:bf w L n d)(id:Int):
  eq prog 139 #[dp L.b,id] w λe w'=>e=BY (U8 #[(bw d n id).1.val,U5 By (bw d n id).2])/\i7 w w':=by
 by_cases h0:id<0
 .have:bw d n id=(.zero,3):=by unfold bw;rw[if_pos (.inl h0)]
  rw[this];exact Td L.b id h0
 .by_cases h1:(cH n:Int)<=id
  .have:bw d n id=(.zero,3):=by unfold bw;rw[if_pos (.inr h1)]
   rw[this];exact Te hd id (by omega) h1
  .obtain⟨a,rfl⟩:=dZ (show 0<=id by omega)
   cases hdn:d.down
   .exact WG hd a (by omega) hdn
   .have:bw d n a=(.zero,13):=by unfold bw;rw[gc,if_pos hdn]
    rw[this];exact NL hd a (by omega) hdn
end Pg
namespace Pg
open Go.RowKit Pk Dk
variable{d:D}{n k:Nat}
theorem Hn(N:Nat)(h:N<18446744073709551616):mI (wY N)=N:=by
 have e:wY N=[gn (N / 72057594037927936),gn (N / 281474976710656),gn (N / 1099511627776),gn (N / 4294967296),gn (N / 16777216),gn (N / 65536),gn (N / 256),gn (N / 1)]:=rfl;rw[e];simp only[mI,AM,Nj,il];omega
theorem xF(n:Int)(h0:0<=n)(h1:n<=9223372036854775807):(mI (df n):Int)-9223372036854775808=n:=by
 unfold df;rw[Hn _ (by omega)];omega
theorem beN_kd(N:Nat)(h:N<=2147483647):mI ((wY N).drop 4)=N:=by
 rw[Wt];simp only[mI,AM,Nj,il];omega
theorem vO{α}(a b:List α)(n:Nat)(h:a.length=n):(a++b).take n=a:=by rw[m8 (by omega),cm (by omega)]
theorem vP{α}(a b:List α)(n:Nat)(h:a.length=n):(a++b).drop n=b:=by rw[<-h];exact uw
theorem E3(id ep kd:Int)(s:pu)(h:s.length<=232):ft (mx id ep kd s) 252=df id++(df ep++((wY kd.toNat).drop 4++ft s 232)):=by
 rw[<-Wu id ep kd s h];simp only[cK]
theorem Th{id ep kd:Int}{s:pu}(gj:NA id ep kd=true)(hid:id<=9223372036854775807)(hs:s.length<=232):
  kn (lF id ep kd s)=(⟨id,ep,kd,ft s 232⟩,0):=by
 have hb:=(qs id ep kd).1 gj;have vL:(ft (mx id ep kd s) 252).length=252:=by
  have:(mx id ep kd s).length=20+s.length:=by unfold mx;simp[fN,qu];omega
  unfold ft;rw[aT,eR];omega
 have hd4:(lF id ep kd s).drop 4=ft (mx id ep kd s) 252:=vP _ _ 4 rfl;have ht4:(lF id ep kd s).take 4=ke.jL (ke.mr (ft (mx id ep kd s) 252)):=vO _ _ 4 rfl;have hlen:(lF id ep kd s).length=256:=by
  unfold lF ke.bT;rw[aT,vL];rfl
 have f4:((wY kd.toNat).drop 4).length=4:=by rw[ev,qu]
 have e1:(lF id ep kd s).drop 12=df ep++((wY kd.toNat).drop 4++ft s 232):=by
  rw[show 12=4+8 from rfl,<-ji,hd4,E3 _ _ _ _ hs];exact vP _ _ 8 (fN _)
 have e2:(lF id ep kd s).drop 20=(wY kd.toNat).drop 4++ft s 232:=by
  rw[show 20=12+8 from rfl,<-ji,e1];exact vP _ _ 8 (fN _)
 have e3:(lF id ep kd s).drop 24=ft s 232:=by
  rw[show 24=20+4 from rfl,<-ji,e2];exact vP _ _ 4 f4
 have hdec:mL (lF id ep kd s)=⟨id,ep,kd,ft s 232⟩:=by
  unfold mL;rw[e1,e2,e3,hd4,E3 _ _ _ _ hs,vO _ _ 8 (fN _),vO _ _ 8 (fN _),vO _ _ 4 f4,xF id hb.1 hid,xF ep hb.2.1 (by omega),beN_kd _ (by omega)]
  congr 1
  omega
 unfold kn;rw[if_neg (by rw[hlen];simp),hd4,ht4,i8,hdec];simp only[gj,if_true]
theorem E4(d:D):d.cW.1.now=d.now:=by
 unfold D.cW
 split
 .rfl
 .split<;>rfl
theorem yL(d:D)(h:d.bu=0):d.cW.2=0/\d.cW.1.bu=0/\d.cW.1.down=d.down:=by
 unfold D.cW;rw[if_pos h];exact⟨rfl,h,rfl⟩
theorem Bj(d:D)(i:Nat):(d.jc i).bu=d.bu/\(d.jc i).down=d.down:=by unfold D.jc;split<;>exact⟨rfl,rfl⟩
theorem jm(hd:d.down=false)(ha:d.bu=0)(hk:k<n)(s:pu):(d.aG n k s).2=0/\(d.aG n k s).1.down=false/\(d.aG n k s).1.bu=0:=by
 unfold D.aG;rw[if_pos (by rw[Hm d n k hk];simp[hd])];have h1:(d.eg (k:Int).toNat s).bu=0:=((Bj d _).1).trans ha;obtain⟨c1,c2,c3⟩:=yL _ h1;exact⟨c1,c3.trans (((Bj d _).2).trans hd),c2⟩
theorem QZ{d:D}{n k:Nat}(b:pu)(hd:d.down=false)(ha:d.bu=0):∀i,k+i<=n->(w4 d n k b i).2=0/\(w4 d n k b i).1.down=false/\(w4 d n k b i).1.bu=0
 |0,_=>⟨rfl,hd,ha⟩
 |i+1,hi=>by
  obtain⟨h1,h2,h3⟩:=QZ (n:=n) (k:=k) b hd ha i (by omega);rw[WB d n k b i h1,show(k:Int)+(i:Int)=((k+i:Nat):Int) by omega];exact jm h2 h3 (by omega) _
theorem xG(c:pu)(h:c.length=64):kU c=c:=by
 unfold kU;rw[h,fM,G4,jR,cm (by omega)]
theorem sU(gj:d.Ok n)(k:Nat)(hk:k<n)(s:pu)(he:(d.aG n k s).2=0)(j:Nat)(hj:j<n):sec (d.aG n k s).1.now j=if k=j then kU s else sec d.now j:=by
 unfold D.aG at he ⊢
 by_cases h0:d.kq n k=0
 .rw[if_pos h0,E4];show sec (ia d.now (k:Int).toNat (kU s)) j=_;rw[show((k:Nat):Int).toNat=k from by omega];exact QU gj.now hk (kV s) hj
 .rw[if_neg h0]at he;exact absurd he h0
theorem NM(gj:d.Ok n)(b:pu)(hb:b.length=256):∀i,i<=4->k+i<=n->(w4 d n k b i).2=0->∀j,j<n->sec (w4 d n k b i).1.now j=if k<=j/\j<k+i then(b.drop (64*(j-k))).take 64 else sec d.now j
 |0,_,_,_,j,_=>by rw[gc];rfl
 |i+1,hi,En,he,j,hj=>by
  have h1:(w4 d n k b i).2=0:=by
   by_cases h:(w4 d n k b i).2=0
   .exact h
   .rw[QY d n k b i (i+1) h (by omega)]at he;exact absurd he h
  rw[WB d n k b i h1]at he ⊢;rw[show(k:Int)+(i:Int)=((k+i:Nat):Int) by omega]at he ⊢;rw[sU (Bh gj k b i) (k+i) (by omega) _ he j hj]
  by_cases Ti:k+i=j
  .rw[if_pos Ti,g8,xG _ (by rw[bC,ev];omega)]
   congr 3;omega
  .rw[if_neg Ti,(NM gj b hb i (by omega) (by omega) h1 j hj)]
   by_cases hr:k<=j/\j<k+i
   .rw[if_pos hr,g8]
   .rw[if_neg hr,gc]
theorem nz(F:pu)(k:Nat):(F.drop (64*k)).take 256=sec F k++sec F (k+1)++sec F (k+2)++sec F (k+3):=by
 have h0:=rA F k 0;simp only[vG,jA,cQ,ma]at h0;rw[show(256:Nat)=64*(3+1)from rfl,(rA F k 3),(rA F k 2),(rA F k 1),h0]
theorem chunks(b:pu)(hb:b.length=256):(b.drop (64*0)).take 64++(b.drop (64*1)).take 64++(b.drop (64*2)).take 64++(b.drop (64*3)).take 64=b:=by
 have:=nz b 0;rw[vG,GM,cm (by omega)]at this;exact this.symm
theorem Ho(gj:d.Ok n)(id:Nat)(b:pu)(hb:b.length=256)(hid:id<cH n)(he:(w4 d n (2+4*id) b 4).2=0):
  ((w4 d n (2+4*id) b 4).1.now.drop (64*(2+4*id))).take 256=b:=by
 have hk:2+4*id+3<n:=by unfold cH at hid;omega
 have hw:=NM gj b hb 4 (by omega) (by omega) he;rw[nz,hw _ (by omega),hw _ (by omega),hw _ (by omega),hw _ (by omega),g8,g8,g8,g8];have:=chunks b hb;rw[show 2+4*id-(2+4*id)=0 by omega,show 2+4*id+1-(2+4*id)=1 by omega,show 2+4*id+2-(2+4*id)=2 by omega,show 2+4*id+3-(2+4*id)=3 by omega];exact this
theorem Hp(gj:d.Ok n)(id jd:Nat)(b:pu)(hb:b.length=256)(hid:id<cH n)(hjd:jd<cH n)(fF:id≠jd)(he:(w4 d n (2+4*id) b 4).2=0):
  ((w4 d n (2+4*id) b 4).1.now.drop (64*(2+4*jd))).take 256=(d.now.drop (64*(2+4*jd))).take 256:=by
 have hk:2+4*id+3<n:=by unfold cH at hid;omega
 have hk2:2+4*jd+3<n:=by unfold cH at hjd;omega
 have hw:=NM gj b hb 4 (by omega) (by omega) he;rw[nz,hw _ (by omega),hw _ (by omega),hw _ (by omega),hw _ (by omega),nz,gc,gc,gc,gc]
theorem Bl{id:Nat}{b:pu}(hid:id<cH n)(hd:d.down=false)(hb:(d.now.drop (64*(2+4*id))).take 256=b):
  bw d n id=if(kn b).2≠0 then(.zero,(kn b).2)else if(kn b).1.id≠(id:Int)then(.zero,14)else((kn b).1,0):=by
 unfold bw;rw[gc,if_neg (by simp[hd]),show((id:Nat):Int).toNat=id from by omega,hb]
theorem nP(gj:d.Ok n)(hd:d.down=false)(ha:d.bu=0)(id:Nat)(ep kd:Int)(s:pu)(hid:id<cH n)(hp:NA id ep kd=true)(hs:s.length<=232):
  (bt d n id ep kd s).2=0/\(bt d n id ep kd s).1.down=false/\(bt d n id ep kd s).1.bu=0/\bw (bt d n id ep kd s).1 n id=(⟨id,ep,kd,ft s 232⟩,0)/\
   ∀jd,jd<cH n->jd≠id->bw (bt d n id ep kd s).1 n jd=bw d n jd:=by
 have uH:eg id ep kd s=(lF id ep kd s,0):=by unfold eg;rw[if_pos hp,gc]
 have hlen:=(Bi (by rw[uH])).1;rw[uH]at hlen;have hw:bt d n id ep kd s=w4 d n (2+4*id) (lF id ep kd s) 4:=by
  unfold bt;rw[uH,i8,gc];rfl
 have hk:2+4*id+4<=n:=by unfold cH at hid;omega
 obtain⟨f1,f2,f3⟩:=QZ (k:=2+4*id) (lF id ep kd s) hd ha 4 hk;rw[hw];refine⟨f1,f2,f3,?_,λjd hjd fF=>?_⟩
 .rw[Bl hid f2 (Ho gj id _ hlen hid f1),Th hp (by have:=gj.small;unfold cH at hid;omega) hs];simp
 .rw[Bl hjd f2 rfl,Bl hjd hd rfl,Hp gj id jd _ hlen hid hjd (Ne.symm fF) f1]
end Pg
namespace Fm
open Go.RowKit
def ints(l:List Int):List YO:=l.map (Value.int By)
@[simp] theorem ints_length(l:List Int):(ints l).length=l.length:=by simp[ints]
theorem WI(l:List Int)(k:Nat)(h:k<l.length):(ints l)[k]?=some (U5 By l[k]):=by simp[ints,h]
theorem ints_set(l:List Int)(k:Nat)(x:Int):(ints l).set k x=ints (l.set k x):=by simp[ints]
theorem Jy(l m:List Int):ints (l++m)=ints l++ints m:=by simp[ints]
def Er(l:List Int)(i:Int):Bool:=decide (0<=i/\i<l.length)
def dS(l:List Int)(i:Int):List Int×Int:=
 if Er l i then(if l.getD i.toNat 0=2 then(l.set i.toNat 0,0)else if l.getD i.toNat 0=1 then(l.set i.toNat 3,0)else(l,9))else(l,3)
def dm(l:List Int)(k:Int):Nat:=l.findIdx (· ==k)
def da(l:List Int):List Int×Int×Int:=
 if dm l 0<l.length then(l.set (dm l 0) 2,dm l 0,0)else(l,0,11)
def oJ(leaving fresh k:Int):Int:=if k=3 then leaving else if k=2 then fresh else k
def jO(leaving fresh:Int)(l:List Int):List Int:=l.map (oJ leaving fresh)
def iL(l:List Int)(k:Int):Nat->List Int
 |0=>[]
 |n+1=>iL l k n++if l.getD n 0=k then [(n:Int)]else []
def ic(l:List Int)(k:Int):List Int:=iL l k l.length
theorem Es(l:List Int)(k:Int)(n:Nat):(iL l k n).length<=n:=by
 induction n with
 |zero=>simp[iL]
 |succ n ih=>simp only[iL,aT];split<;>simp<;>omega
theorem vQ(a b:Int)(l:List Int):(jO a b l).length=l.length:=by simp[jO]
def kr(a b:Int)(l:List Int)(k:Nat):List Int:=(l.take k).map (oJ a b)++l.drop k
theorem Et(a b:Int)(l:List Int)(k:Nat):(kr a b l k).length=l.length:=by
 simp[kr];omega
theorem Jz(a b:Int)(l:List Int):kr a b l 0=l:=by simp[kr]
theorem NN(a b:Int)(l:List Int):kr a b l l.length=jO a b l:=by simp[kr,jO]
theorem Bm(a b:Int)(l:List Int)(k:Nat)(h:k<l.length):(kr a b l k).getD k 0=l.getD k 0:=by
 unfold kr;simp only[List.getD];rw[dQ (by simp;omega)];simp[sM (Nat.le_of_lt h)]
theorem yM(a b:Int)(l:List Int)(k:Nat)(h:k<l.length):kr a b l (k+1)=(kr a b l k).set k (oJ a b (l.getD k 0)):=by
 have hk:l.getD k 0=l[k]:=by simp[List.getD,aH h]
 have h0:k-((l.take k).map (oJ a b)).length=0:=by simp;omega
 rw[kr,kr,hk,ik h,cX,cK,qc _ _ (by simp;omega),h0,rh h];rfl
theorem WJ(l:List Int)(k:Nat):l.set k (l.getD k 0)=l:=by
 rcases fC k l.length with h|h
 .simp only[List.getD,aH h,jB];exact List.set_getElem_self h
 .exact List.set_eq_of_length_le h
theorem JA(a b:Int)(l:List Int)(k:Nat)(h:k<l.length)(h3:oJ a b (l.getD k 0)=l.getD k 0):kr a b l (k+1)=kr a b l k:=by
 rw[yM a b l k h,h3,<-Bm a b l k h,WJ]
variable{w:YB}{b g:Nat}{l:List Int}
theorem JB:(prog.info? 3).map (λi=>(i.zero,i.size,i.bytes))=some (some (U5 By 0),1,8):=by kernel_rfl
structure dU(w:YB)(b g:Nat)(l:List Int):Prop where
 hb:aF w b 218 #[U3 (lc g) l.length l.length]
 hg:aF w g 3 (ints l).toArray
 hl:l.length<=1024
def mp(b:Nat):YO:= .pointer (some ⟨b,0,none⟩)
section
variable{w w':YB}{b g:Nat}{l:List Int}{S:List Nat}
theorem dU.ne(h:dU w b g l):b≠g:=h.hb.jJ h.hg (by decide)
theorem dU.c0(h:dU w b g l):w.cell? (lc b)=some (U3 (lc g) l.length l.length):=h.hb.ab rfl
theorem dU.ck(h:dU w b g l)(k:Nat)(hk:k<l.length):w.cell? ⟨g,k,none⟩=some (U5 By (l.getD k 0)):=by
 refine h.hg.ab ?_;rw[cN,WI _ _ hk];simp[List.getD,aH hk]
theorem dU.fk(h:dU w b g l)(k:Nat)(hk:k<l.length):w.frozen? ⟨g,k,none⟩=false:=h.hg.frozen k (by simpa using hk)
theorem dU.only(h:dU w b g l)(ho:ag S w w')(h1:b∉S)(h2:g∉S):dU w' b g l:=⟨h.hb.only ho h1,h.hg.only ho h2,h.hl⟩
theorem dU.below(h:dU w b g l)(hb:i7 w w'):dU w' b g l:=h.only (S:=[]) (.aj hb) (by simp) (by simp)
theorem dU.drew(h:dU w b g l):dU w.drew b g l:=⟨h.hb,h.hg,h.hl⟩
theorem dU.cw(h:dU w b g l)(k:Nat)(x:Int):dU (w.setCell ⟨g,k,none⟩ x) b g (l.set k x):=by
 refine⟨?_,?_,by simpa using h.hl⟩
 .rw[bV];exact h.hb.aY (by exact h.ne) _
 .have:=h.hg.cw k x;rw[sJ,ints_set]at this;exact this
end
theorem Hk(n:Nat)(w:YB)(h:n<=1024):
  eq prog 81 #[n] w λe w'=> ∃b g,e=BY (U8 #[mp b,U5 By 0])/\dU w' b g (fd n 0)/\i7 w w'/\w.heap.size<=b/\w.heap.size<=g:=by
 have hmk:∀w':YB,(Instr.makeSlice 60 n n).run prog w'= .ok (U3 (lc w'.heap.size) n n) (w'.alloc (WF (madeCells #[U5 By 0] n) 3)):=λw'=>by
  obtain⟨i0,hi,lz,jK,kl⟩:=info_parts JB;have h:=run_make (P:=prog) w' 60 3 i0 (U5 By 0) underlying60 hi lz By By n n (by omega) (ki _) (by rw[kl];omega) (by omega);simpa [jK,Value.cells]using h
 go_in
 go_wp2
 go_ret2;refine⟨w.heap.size+1,w.heap.size,rfl,⟨?_,?_,by simpa using h⟩,((Below.refl _ _).alloc (ai _) _).alloc (by simp) _,by omega,by omega⟩
 .have:=aF.new (w.alloc (WF (madeCells #[U5 By 0] n) 3)) 218 #[U3 (lc w.heap.size) n n];simpa using this
 .have:=(aF.new w 3 (madeCells #[U5 By 0] n)).alloc (WF #[U3 (lc w.heap.size) n n] 218);rw[iW]at this;rw[iW];simpa [ints]using this
theorem Q0(m:dU w b g l)(i:Int)(h:Er l i=true):
  eq prog 183 #[mp b,i] w λe w'=>e=BY (U5 By 0)/\w=w':=by
 simp only[Er,decide_eq_true_eq]at h;obtain⟨h0,h1⟩:=h;have c0:=m.c0;unfold mp;go_in
 go_wp2
 go_ret;exact⟨rfl,rfl⟩
theorem at_no(m:dU w b g l)(i:Int)(h:Er l i=false):
  eq prog 183 #[mp b,i] w λe w'=>e=BY (U5 By 3)/\w=w':=by
 simp only[Er,decide_eq_false_iff_not]at h;have h':i<0\/(¬i<0/\(l.length:Int)<=i):=by omega
 have c0:=m.c0;unfold mp
 rcases h' with h|⟨h,h1⟩
 all_goals
  go_in
  go_wp2
  go_ret;exact⟨rfl,rfl⟩
variable{w:YB}{b g:Nat}{l:List Int}
theorem sV(m:dU w b g l)(i:Int):
  eq prog 153 #[mp b,i] w λe w'=>e=BY (U5 By (dS l i).2)/\dU w' b g (dS l i).1/\ag [g] w w':=by
 by_cases sW:Er l i=true
 .have Bn:=sW;simp only[Er,decide_eq_true_eq]at Bn;obtain⟨h0,h1⟩:=Bn;obtain⟨k,rfl⟩:=dZ h0;have hk:k<l.length:=by omega
  have c0:=m.c0;have ck:=m.ck k hk;have fk:=m.fk k hk
  by_cases hz:l.getD k 0=2
  .have hu:dS l k=(l.set k 0,0):=by simp only[dS,sW,if_true,iJ,hz]
   rw[hu];rw[hz]at ck;have HU:=xh<|m.cw k 0;unfold mp;go_in;go_wp;go_call (Q0 m k sW) as e w1 ⟨rfl,rfl⟩;go_wp2;go_ret;exact⟨rfl,HU.o,(ag.refl _ _).setCell (by simp) _⟩
  .by_cases jK:l.getD k 0=1
   .have hu:dS l k=(l.set k 3,0):=by simp only[dS,sW,if_true,iJ,jK];rfl
    rw[hu];rw[jK]at ck;have HU:=xh<|m.cw k 3;unfold mp;go_in;go_wp;go_call (Q0 m k sW) as e w1 ⟨rfl,rfl⟩;go_wp2;go_ret;exact⟨rfl,HU.o,(ag.refl _ _).setCell (by simp) _⟩
   .have hu:dS l k=(l,9):=by simp only[dS,sW,if_true,iJ,if_neg hz,if_neg jK]
    rw[hu];generalize l.getD k 0=x at ck hz jK;unfold mp;go_in;go_wp;go_call (Q0 m k sW) as e w1 ⟨rfl,rfl⟩;go_wp2;go_ret;exact⟨rfl,m,ag.refl _ _⟩
 .have Bn:Er l i=false:=by simpa using sW
  have hu:dS l i=(l,3):=by simp only[dS,Bn];rfl
  rw[hu];unfold mp;go_in;go_wp;go_call (at_no m i Bn) as e w1 ⟨rfl,rfl⟩;go_wp2;go_ret;exact⟨rfl,m,ag.refl _ _⟩
theorem JC(l:List Int)(k:Int)(n:Nat)(hn:n<=l.length)(h:∀j,j<n->l.getD j 0≠k):n<=dm l k:=by
 rcases fC (dm l k) n with ef|MN
 .have h1:l.findIdx (· ==k)<l.length:=by unfold dm at ef;omega
  have h3:=h _ ef;unfold dm at h3;simp only[List.getD,aH h1,jB]at h3;exact absurd (by simpa using (rj (w:=h1))) h3
 .exact MN
theorem WK(l:List Int)(k:Int)(n:Nat)(hn:n<l.length)(h:∀j,j<n->l.getD j 0≠k)(hk:l.getD n 0=k):dm l k=n:=by
 have h1:=JC l k n (by omega) h;have h2:dm l k<=n:=by
  unfold dm
  rcases fC n (l.findIdx (· ==k))with ef|MN
  .have:=GW ef;simp[(by simpa [List.getD,aH hn]using hk)]at this
  .exact MN
 omega
theorem NR(l:List Int)(k:Int)(h:∀j,j<l.length->l.getD j 0≠k):dm l k=l.length:=by
 have:=JC l k l.length (ai _) h;have h2:dm l k<=l.length:=p8;omega
def lN(l:List Int)(k:Int):Int:=if dm l k<l.length then(dm l k:Int)else -1
theorem sX(g n c:Nat)(l:List Int)(hn:n=l.length)(hm:n<=1000000)(k:Int)(w:YB)(hc:∀j,j<l.length->w.cell? ⟨g,j,none⟩=some (U5 By (l.getD j 0))):
  eq prog 165 #[U3 (lc g) n c,k] w λe w'=>e=BY (U5 By (lN l k))/\w=w':=by
 subst hn;go_in
 go_wp2
 go_loop [5,8] (λ_ i=> ∃j:Nat,j<=l.length/\i=U5 By j/\Hid (∀x,x<j->l.getD x 0≠k)) (λ_ i=>l.length-(intOf i).toNat)
 case atStart=>exact⟨0,by omega,rfl,xh (by omega)⟩
 case round=>
  obtain⟨j,hj,rfl,H⟩:=hrel
  by_cases h:j<l.length
  .have cj:=hc j h;clear hc
   by_cases hk:l.getD j 0=k
   .have he:lN l k=j:=by unfold lN;rw[WK l k j h H.o hk,if_pos h]
    have HE:=xh he;clear he;rw[hk]at cj
    go_wp2
    go_ret;exact⟨by rw[HE.o];rfl,rfl⟩
   .have H2:=xh (show ∀x,x<j+1->l.getD x 0≠k from λx hx=>by
     rcases fC x j with h1|h1
     .exact H.o x h1
     .have:x=j:=by omega
      subst this;exact hk)
    have hk':(k==l.getD j 0)=false:=by simp;exact λe=>hk e.symm
    generalize l.getD j 0=y at *
    go_wp2
    go_round
    case rel=>exact⟨j+1,by omega,by go_num,H2⟩
    case measure=>simp[intOf];omega
  .have hjl:j=l.length:=by omega
   have he:lN l k= -1:=by
    unfold lN;rw[NR l k (by rw[<-hjl];exact H.o),gc]
   have HE:=xh he;clear he hjl hc
   go_wp2
   go_ret;exact⟨by rw[HE.o];rfl,rfl⟩
theorem E6(m:dU w b g l)(k:Int):
  eq prog 195 #[mp b,k] w λe w'=>e=BY (U5 By (lN l k))/\w=w':=by
 have hl:=m.hl;have c0:=m.c0;unfold mp;go_in;go_wp;go_call (sX g _ _ l rfl (by omega) k _ (xh m.ck).o) as e w1 ⟨rfl,rfl⟩;go_wp2;go_ret;exact⟨rfl,rfl⟩
theorem vI(m:dU w b g l):
  eq prog 151 #[mp b] w λe w'=>e=BY (U8 #[U5 By (da l).2.1,U5 By (da l).2.2])/\dU w' b g (da l).1/\ag [g] w w':=by
 have c0:=m.c0
 by_cases h:dm l 0<l.length
 .have hu:da l=(l.set (dm l 0) 2,(dm l 0:Int),0):=by rw[da,if_pos h]
  have hi:lN l 0=dm l 0:=by rw[lN,if_pos h]
  rw[hu];have K:=xh<|hi▸E6 m 0;have ck:=m.ck _ h;have fk:=m.fk _ h;have HU:=xh<|m.cw (dm l 0) 2;generalize dm l 0=k at *;unfold mp at *;go_in;go_wp;go_call (K.o) as e w1 ⟨rfl,rfl⟩;go_wp2;go_ret2;exact⟨rfl,HU.o,(ag.refl _ _).setCell (by simp) _⟩
 .have hu:da l=(l,0,11):=by rw[da,if_neg h]
  have hi:lN l 0= -1:=by rw[lN,if_neg h]
  rw[hu];have K:=xh<|hi▸E6 m 0;unfold mp at *;go_in;go_wp;go_call (K.o) as e w1 ⟨rfl,rfl⟩;go_wp2;go_ret2;exact⟨rfl,m,ag.refl _ _⟩
variable{w:YB}{b g:Nat}{l:List Int}
theorem JD(m:dU w b g l)(a c:Int):
  eq prog 200 #[mp b,a,c] w λe w'=>e=BY (U6 true)/\dU w' b g (jO a c l)/\ag [g] w w':=by
 have hl:=m.hl;have c0:=m.c0;have HM:=xh m;unfold mp;go_in
 go_wp2
 go_loopw [7,8,16] (λ_ _ i wr=> ∃k:Nat,k<=l.length/\i=U5 By k/\dU wr b g (kr a c l k)/\ag [g] w wr) (λ_ _ i _=>l.length-(intOf i).toNat)
 case atStart=>exact⟨0,by omega,rfl,by rw[Jz];exact HM.o,ag.refl _ _⟩
 case round=>
  obtain⟨k,hk,rfl,M,O⟩:=hrel;have HL:=xh<|Et a c l k
  by_cases h:k<l.length
  .have c0r:wr.cell? (lc b)=some (U3 (lc g) l.length l.length):=by rw[<-HL.o];exact M.c0
   have ck:=M.ck k (by rw[HL.o];exact h);have fk:=M.fk k (by rw[HL.o];exact h);rw[Bm a c l k h]at ck;have HS:=xh<|yM a c l k h;have M3:=xh<|M.cw k
   by_cases h3:l.getD k 0=3
   .rw[h3]at ck;have HX:=xh h3;clear h3
    go_wp2
    go_roundw
    case rel=>exact⟨k+1,by omega,by go_num,by rw[HS.o,HX.o];exact M3.o a,O.setCell (by simp) _⟩
    case measure=>simp[intOf];omega
   .by_cases h2:l.getD k 0=2
    .rw[h2]at ck;have HX:=xh h2;clear h3 h2
     go_wp2
     go_roundw
     case rel=>exact⟨k+1,by omega,by go_num,by rw[HS.o,HX.o];exact M3.o c,O.setCell (by simp) _⟩
     case measure=>simp[intOf];omega
    .have HX:=xh<|(xh<|JA a c l k h).o (by rw[oJ,if_neg h3,if_neg h2]);generalize l.getD k 0=x at *
     go_wp2
     go_roundw
     case rel=>exact⟨k+1,by omega,by go_num,by rw[HX.o];exact M,O⟩
     case measure=>simp[intOf];omega
  .have lO:k=l.length:=by omega
   have HX:=xh lO
   go_wp2
   go_ret;exact⟨rfl,by rw[<-NN,<-HX.o];exact M,O⟩
theorem uI(m:dU w b g l):
  eq prog 154 #[mp b] w λe w'=>e=BY (U6 true)/\dU w' b g (jO 0 1 l)/\ag [g] w w':=by
 unfold mp at *;go_in;go_wp;go_call ((xh<|JD m).o _ _) as e w1 ⟨rfl,m1,o1⟩;go_wp2;go_ret;exact⟨rfl,m1,o1⟩
theorem xH(m:dU w b g l):
  eq prog 155 #[mp b] w λe w'=>e=BY (U6 true)/\dU w' b g (jO 1 0 l)/\ag [g] w w':=by
 unfold mp at *;go_in;go_wp;go_call ((xh<|JD m).o _ _) as e w1 ⟨rfl,m1,o1⟩;go_wp2;go_ret;exact⟨rfl,m1,o1⟩
theorem NU{v:YO}{n:Nat}(S:aM w 3 1 v n (ints l))(x:Int)(hn:n<=1000000):
  ∃v' w',(Builtin.append_ #[60,60] 60 #[v,U3 (lc w.heap.size) 1 1]).run prog (w.alloc (WF #[x] 3))= .ok v' w'/\aM w' 3 1 v' (n+1) (ints (l++[x]))/\ag (ah v) w w'/\(∀g∈ah v',g∈ah v\/w.heap.size<=g):=by
 obtain⟨i0,hi,lz,jK,kl⟩:=info_parts JB;obtain⟨v',w',h1,h2,h3,h4⟩:=dE (P:=prog) (S.alloc (WF #[x] 3)) 60 60 i0 (U5 By 0) 8 underlying60 hi lz jK kl rfl (by omega)
  ⟨w.heap.size,0,none⟩ 1 1 [x] rfl (bm (l:=[x]) (aF.new w 3 #[x]) 0 _ (by simp)) (by simp[Value.oneCell']) (by unfold maxLen;omega) (by omega)
 refine⟨v',w',h1,by rw[Jy];exact h2,((ag.refl _ _).alloc _).aU h3 (λx hx _=>hx),λg hg=>(h4 g hg).imp id (λh=>by simp at h;omega)⟩
theorem kW(m:dU w b g l)(kind:Int):
  eq prog 194 #[mp b,kind] w λe w'=> ∃v,e=BY v/\aM w' 3 1 v (ic l kind).length (ints (ic l kind))/\i7 w w'/\(∀x∈ah v,w.heap.size<=x):=by
 have hl:=m.hl;have c0:=m.c0;have HM:=xh m;unfold mp;go_in
 go_wp2
 go_loopw [5,6,7,16] (λv _ _ i wr=> ∃k:Nat,k<=l.length/\i=U5 By k/\aM wr 3 1 v (iL l kind k).length (ints (iL l kind k))/\i7 w wr/\(∀x∈ah v,w.heap.size<=x)) (λ_ _ _ i _=>l.length-(intOf i).toNat)
 case atStart=>exact⟨0,by omega,rfl,aM.nil _ _ _,Below.refl _ _,by simp[ah]⟩
 case round=>
  obtain⟨k,hk,rfl,S,O,F⟩:=hrel;have F:=xh F;have ef:=Es l kind k
  by_cases h:k<l.length
  .have ck:=(HM.o.below O).ck k h
   by_cases h3:l.getD k 0=kind
   .have HX:=g9 (iL l kind (k+1)=iL l kind k++[(k:Int)]) (by simp only[iL,if_pos h3]);rw[h3]at ck;clear h3;obtain⟨v',w',ea,S',O',F'⟩:=NU S k (by omega);have F':=xh F';have EA:=xh ea;generalize iL l kind k=L at *;go_wp2_with (at_builtin;refine wpList_append_run rfl _ _ _ rfl _ _ rfl rfl EA.o ?_);go_roundw
    case rel=>exact⟨k+1,by omega,by go_num,by rw[HX.o];simpa using S',O.trans (O'.aK O.size F.o),λx hx=>(F'.o x hx).elim (F.o x) (λh=>aq O.size h)⟩
    case measure=>simp[intOf];omega
   .have HX:=g9 (iL l kind (k+1)=iL l kind k) (by simp only[iL,if_neg h3];simp);generalize l.getD k 0=x at *;have fF:(x==kind)=false:=by simpa using h3
    go_wp2
    go_roundw
    case rel=>exact⟨k+1,by omega,by go_num,by rw[HX.o];exact S,O,F.o⟩
    case measure=>simp[intOf];omega
  .have lO:k=l.length:=by omega
   have HX:=xh lO
   go_wp2
   go_ret;refine⟨_,rfl,?_,O,F.o⟩;unfold ic;rw[<-HX.o];exact S
variable{w:YB}{l:List Int}{b g:Nat}
theorem slc_len{e:TypeId}{size n:Nat}{v:YO}{l:List YO}(S:aM w e size v n l):∃A c,v=U3 A n c:=by
 rcases S.2 with⟨rfl,rfl⟩|⟨g,cap,rest,rfl,_⟩
 .exact⟨none,0,rfl⟩
 .exact⟨_,cap,rfl⟩
theorem WL(m:dU w b g l):
  eq prog 150 #[mp b] w λe w'=>e=BY (U5 By (ic l 0).length)/\i7 w w':=by
 unfold mp at *;go_in;go_wp;go_call ((xh<|kW m 0).o) as e w1 ⟨v,rfl,S,hb,-⟩;obtain⟨A,c,rfl⟩:=slc_len S;go_wp2;go_ret;exact⟨rfl,hb⟩
def cB(l:List Int)(i:Int):Bool:=Er l i && (l.getD i.toNat 0==2)
theorem sY(m:dU w b g l)(i:Int):
  eq prog 192 #[mp b,i] w λe w'=>e=BY (U6 (cB l i))/\w=w':=by
 by_cases sW:Er l i=true
 .have Bn:=sW;simp only[Er,decide_eq_true_eq]at Bn;obtain⟨h0,h1⟩:=Bn;obtain⟨k,rfl⟩:=dZ h0;have hk:k<l.length:=by omega
  have c0:=m.c0;have ck:=m.ck k hk;have HF:=g9 (cB l k=(l.getD k 0==2)) (by simp only[cB,sW,MX,iJ]);generalize l.getD k 0=x at ck HF;unfold mp;go_in;go_wp;go_call (Q0 m k sW) as e w1 ⟨rfl,rfl⟩;go_wp2;go_ret;exact⟨by rw[HF.o];rfl,rfl⟩
 .have Bn:Er l i=false:=by simpa using sW
  have HF:=g9 (cB l i=false) (by simp only[cB,Bn,Bool.false_and]);unfold mp;go_in;go_wp;go_call (at_no m i Bn) as e w1 ⟨rfl,rfl⟩;go_wp2;go_ret;exact⟨by rw[HF.o];rfl,rfl⟩
end Fm
namespace Rt
open Go.RowKit Pk
variable{w:YB}{A:Option Addr}{n:Nat}{l:List Int}
theorem ae{W w1:YB}(h:i7 W w1)(o:Obj):i7 W (w1.alloc o):=h.alloc h.size o
theorem bool_of(p:Prop):∃b:Bool,b=true↔p:=by
 by_cases h:p
 .exact⟨true,by simp[h]⟩
 .exact⟨false,by simp[h]⟩
def jT(w:YB)(A:Option Addr)(n:Nat)(l:List Int):Prop:=l.length=n/\∀k x,l[k]?=some x->∃ad,A=some ad/\w.cell? (ad.add k)=some (U5 By x)
theorem jT.below{w':YB}(h:jT w A n l)(hb:i7 w w'):jT w' A n l:=by
 refine⟨h.1,λk x hx=>?_⟩;obtain⟨ad,e1,h1⟩:=h.2 k x hx;exact⟨ad,e1,(hb.cell (by rw[m9];exact QR h1)).trans h1⟩
theorem jT.at(h:jT w A n l)(k:Nat)(hk:k<n):∃ad x,A=some ad/\l[k]?=some x/\w.cell? (ad.add k)=some (x:li):=by
 have hl:=h.1;obtain⟨ad,e1,h1⟩:=h.2 k l[k] (aH (by omega));exact⟨ad,l[k],e1,aH (by omega),h1⟩
theorem jT.take(h:jT w A n l)(k:Nat)(hk:k<=n):jT w A k (l.take k):=by
 refine⟨by rw[bC];have:=h.1;omega,λj x hx=>?_⟩;rw[uA]at hx
 split at hx
 .exact h.2 j x hx
 .cases hx
def oK(n:Int):Int:=(max n 0+115) / 116
def E9(a b:Int)(A:Option Addr)(n c:Nat):YO:= .agg #[U5 By a,U5 By b,U3 A n c]
def jn(ep lg:Int)(l:List Int):Prop:=1<=ep/\ep<=1099511627776/\0<=lg/\lg<=512/\(l.length:Int)=oK lg/\∀i x,l[i]?=some x->0<=x/\x<=1023/\x∉l.take i
theorem Bo(n:Int)(h:n<=1000000)(w:YB):
  eq prog 149 #[n] w λe w'=>e=BY (U5 By (oK n))/\i7 w w':=by
 unfold oK;obtain⟨m,hm⟩:=dZ (show 0<=max n 0 by omega);rw[hm]
 go_in;go_wp
 all_goals
  go_ret;refine⟨?_,Below.refl _ _⟩
  first|(simp;done)|(simp;omega)
theorem sX(A:Option Addr)(n c:Nat)(l:List Int)(x:Int)(h:jT w A n l)(hn:n<=1000000):
  eq prog 165 #[U3 A n c,x] w λe w'=>(∃k:Int,e=BY k/\(0<=k↔x∈l))/\w'=w:=by
 have H0:=xh h;go_in;go_wp
 go_loopw [8] (λiv wr=> ∃i:Nat,i<=n/\iv=U5 By i/\Hid (∀j y,j<i->l[j]?=some y->y≠x)/\wr=w) (λiv _=>n-(intOf iv).toNat)
 case atStart=>exact⟨0,aW _,rfl,xh (λj y h=>absurd h (mc _)),rfl⟩
 case round=>
  obtain⟨i,hi,rfl,HX,rfl⟩:=hrel
  by_cases h':i<n
  .obtain⟨ad,y,rfl,hy,ck⟩:=H0.o.at i h';have hiI:(i:Int)<(n:Int):=by omega
   have HY:=xh hy
   by_cases Vz:x=y
   .subst Vz;go_wp2;go_ret;refine⟨⟨(i:Int),rfl,?_⟩,rfl⟩;exact⟨λ_=>aA HY.o,λ_=>by omega⟩
   .have hxy2:(x==y)=false:=by simpa using Vz
    have HX2:=xh (show ∀j z,j<i+1->l[j]?=some z->z≠x from λj z hj hz=>by
     rcases qg.1 hj with h1|rfl
     .exact HX.o j z h1 hz
     .rw[HY.o]at hz;injection hz with hz;subst hz;exact λe=>Vz e.symm)
    go_wp;go_roundw
    case rel=>exact⟨i+1,by omega,by go_num,HX2,by first|rfl|trivial⟩
    case measure=>simp[intOf];omega
  .obtain rfl:i=n:=by omega
   go_wp2;go_ret;refine⟨⟨-1,rfl,?_⟩,rfl⟩
   constructor
   .intro h1;omega
   .intro hm;exfalso;obtain⟨j,hj,hjx⟩:=p9 hm;exact HX.o j _ (by have:=H0.o.1;omega) (aH hj) hjx
theorem Hr(A:Option Addr)(n c:Nat)(l:List Int)(x:Int)(h:jT w A n l)(hn:n<=1000000)(b:Bool)(hb:b=true↔x∈l):
  eq prog 201 #[U3 A n c,x] w λe w'=>e=BY (U6 b)/\w'=w:=by
 have K:=xh<|sX A n c l x h hn;have HB:=xh hb;go_in;go_wp;go_call K.o as e w1 ⟨⟨k,rfl,hk⟩,rfl⟩;have HK:=xh hk;clear hk
 by_cases h0:0<=k
 .have h1:¬k<0:=by omega
  go_wp2;go_ret;refine⟨?_,rfl⟩;rw[HB.o.2 (HK.o.1 h0)];first|rfl|simp
 .have h1:k<0:=by omega
  go_wp2;go_ret;refine⟨?_,rfl⟩
  cases b
  .first|rfl|(simp;omega)
  .exact absurd (HK.o.2 (HB.o.1 rfl)) (by omega)
theorem lP{ep lg:Int}{l:List Int}(h:jn ep lg l):l.length<=5:=by
 have:=h.2.2.2.2.1;unfold oK at this;have:=h.2.2.2.1;omega
theorem xI{w:YB}(ep lg:Int)(A:Option Addr)(n c:Nat)(l:List Int)(h:jT w A n l)(hn:n<=1000000)(Ha:n<=c)(b:Bool)(hb:b=true↔jn ep lg l):
  eq prog 156 #[E9 ep lg A n c] w λe w'=>e=BY (U6 b)/\i7 w w':=by
 have O0:=i6 w (WF #[ep,lg,U3 A n c] 155);have B0:=xh<|aF.new w 155 #[ep,lg,U3 A n c];have H0:=xh<|h.below O0;have HB:=xh hb;have HL:=xh h.1;have O0:=xh O0;clear h hb;unfold E9;have KN:=xh (λ(hl:lg<=512) w=>Bo lg (by omega) w);go_in;go_wp2_with fail;generalize hW:(w.alloc (WF #[ep,lg,U3 A n c] 155))=W at *
 clear hW;have HK:=g9 (∀W',i7 W W'->(W'.cell? (lc w.heap.size)=some (ep:li)/\W'.cell? ⟨w.heap.size,1,none⟩=some (lg:li)/\W'.cell? ⟨w.heap.size,2,none⟩=some (U3 A n c))) (λW' ho=>⟨(B0.o.below ho B0.o.lt).ab (i:=0) rfl,(B0.o.below ho B0.o.lt).ab (i:=1) rfl,(B0.o.below ho B0.o.lt).ab (i:=2) rfl⟩);have OD:=xh<|(i5 W).drew
 refine kw (λW'=>W'.cell? (lc w.heap.size)=some (ep:li)/\W'.cell? ⟨w.heap.size,1,none⟩=some (lg:li)/\W'.cell? ⟨w.heap.size,2,none⟩=some (U3 A n c)) (HK.o _ OD.o) (λau=>?_);refine dP [(0,5),(1,6)] ?_
 iterate 2 refine bJ ?_
 refine zpe ?_;have EY:(ep<1)\/(¬ep<1/\1099511627776<ep)\/(¬ep<1/\¬1099511627776<ep/\lg<0)\/(¬ep<1/\¬1099511627776<ep/\¬lg<0/\512<lg)\/(¬ep<1/\¬1099511627776<ep/\¬lg<0/\¬512<lg):=by omega
 rcases EY with h1|⟨h1,h2⟩|⟨h1,h2,h3⟩|⟨h1,h2,h3,h4⟩|⟨h1,h2,h3,h4⟩
 refine rn 2 7 (U6 true) ?_ ?_
 ·(intro w tX;(try dsimp only at tX);go_simp;(try omega))
 refine dP [(3,8)] ?_
 iterate 1 refine bJ ?_
 refine cL 4 9 ?_;refine cL 5 10 ?_;refine cL 6 11 ?_;refine dP [(7,12),(8,13)] ?_
 iterate 2 refine bJ ?_
 refine cL 9 14 ?_;refine cL 10 15 ?_;refine cL 11 16 ?_;refine dP [(12,17),(13,18)] ?_
 iterate 2 refine bJ ?_
 refine cL 14 19 ?_;refine cL 15 20 ?_;refine cL 16 21 ?_;refine dP [(17,22),(18,23)] ?_
 iterate 2 refine bJ ?_
 refine cL 19 24 ?_;refine cL 20 25 ?_;refine cL 21 26 ?_;refine cL 22 27 ?_;refine cL 23 28 ?_;refine cL 24 29 ?_;refine cL 25 30 ?_;refine dP [(26,31)] ?_
 iterate 1 refine bJ ?_
 refine jp ?_ _;rotate_left;refine rn 2 7 (U6 false) ?_ ?_
 ·(intro w tX;(try dsimp only at tX);go_simp;(try omega))
 refine dP [(3,8),(4,9),(5,10)] ?_
 iterate 3 refine bJ ?_
 refine rn 6 11 (U6 true) ?_ ?_
 ·(intro w tX;(try dsimp only at tX);go_simp;(try omega))
 refine dP [(7,12),(8,13)] ?_
 iterate 2 refine bJ ?_
 refine cL 9 14 ?_;refine cL 10 15 ?_;refine cL 11 16 ?_;refine dP [(12,17),(13,18)] ?_
 iterate 2 refine bJ ?_
 refine cL 14 19 ?_;refine cL 15 20 ?_;refine cL 16 21 ?_;refine dP [(17,22),(18,23)] ?_
 iterate 2 refine bJ ?_
 refine cL 19 24 ?_;refine cL 20 25 ?_;refine cL 21 26 ?_;refine cL 22 27 ?_;refine cL 23 28 ?_;refine cL 24 29 ?_;refine cL 25 30 ?_;refine dP [(26,31)] ?_
 iterate 1 refine bJ ?_
 refine jp ?_ _;rotate_left;refine rn 2 7 (U6 false) ?_ ?_
 ·(intro w tX;(try dsimp only at tX);go_simp;(try omega))
 refine dP [(3,8),(4,9),(5,10)] ?_
 iterate 3 refine bJ ?_
 refine rn 6 11 (U6 false) ?_ ?_
 ·(intro w tX;(try dsimp only at tX);go_simp;(try omega))
 refine dP [(7,12),(8,13),(9,14),(10,15)] ?_
 iterate 4 refine bJ ?_
 refine rn 11 16 (U6 true) ?_ ?_
 ·(intro w tX;(try dsimp only at tX);go_simp;(try omega))
 refine dP [(12,17),(13,18)] ?_
 iterate 2 refine bJ ?_
 refine cL 14 19 ?_;refine cL 15 20 ?_;refine cL 16 21 ?_;refine dP [(17,22),(18,23)] ?_
 iterate 2 refine bJ ?_
 refine cL 19 24 ?_;refine cL 20 25 ?_;refine cL 21 26 ?_;refine cL 22 27 ?_;refine cL 23 28 ?_;refine cL 24 29 ?_;refine cL 25 30 ?_;refine dP [(26,31)] ?_
 iterate 1 refine bJ ?_
 refine jp ?_ _;rotate_left;refine rn 2 7 (U6 false) ?_ ?_
 ·(intro w tX;(try dsimp only at tX);go_simp;(try omega))
 refine dP [(3,8),(4,9),(5,10)] ?_
 iterate 3 refine bJ ?_
 refine rn 6 11 (U6 false) ?_ ?_
 ·(intro w tX;(try dsimp only at tX);go_simp;(try omega))
 refine dP [(7,12),(8,13),(9,14),(10,15)] ?_
 iterate 4 refine bJ ?_
 refine rn 11 16 (U6 false) ?_ ?_
 ·(intro w tX;(try dsimp only at tX);go_simp;(try omega))
 refine dP [(12,17),(13,18),(14,19),(15,20)] ?_
 iterate 4 refine bJ ?_
 refine rn 16 21 (U6 true) ?_ ?_
 ·(intro w tX;(try dsimp only at tX);go_simp;(try omega))
 refine dP [(17,22),(18,23)] ?_
 iterate 2 refine bJ ?_
 refine cL 19 24 ?_;refine cL 20 25 ?_;refine cL 21 26 ?_;refine cL 22 27 ?_;refine cL 23 28 ?_;refine cL 24 29 ?_;refine cL 25 30 ?_;refine dP [(26,31)] ?_
 iterate 1 refine bJ ?_
 refine jp ?_ _;rotate_left
 .replace KN:=xh<|KN.o (by omega)
  obtain⟨nd,EK⟩:∃nd,oK lg=nd:=⟨_,rfl⟩;have HND:=xh EK;rw[EK]at KN;clear EK;refine rn 2 7 (U6 false) ?_ ?_
  ·(intro w tX;(try dsimp only at tX);go_simp;(try omega))
  refine dP [(3,8),(4,9),(5,10)] ?_
  iterate 3 refine bJ ?_
  refine rn 6 11 (U6 false) ?_ ?_
  ·(intro w tX;(try dsimp only at tX);go_simp;(try omega))
  refine dP [(7,12),(8,13),(9,14),(10,15)] ?_
  iterate 4 refine bJ ?_
  refine rn 11 16 (U6 false) ?_ ?_
  ·(intro w tX;(try dsimp only at tX);go_simp;(try omega))
  refine dP [(12,17),(13,18),(14,19),(15,20)] ?_
  iterate 4 refine bJ ?_
  refine rn 16 21 (U6 false) ?_ ?_
  ·(intro w tX;(try dsimp only at tX);go_simp;(try omega))
  refine dP [(17,22),(18,23),(19,24),(20,25),(21,26),(22,27),(23,28)] ?_
  iterate 7 refine bJ ?_
  refine dI 24 29 λK hK=>?_;go_simp
  go_at_call 149
  go_call (KN.o _) as r w2 ⟨rfl,cf⟩;have P2:=xh<|aC OD.o cf;go_simp;refine bn hK (HK.o _ P2.o) (λau=>?_)
  by_cases h5:(n:Int)=nd
  rotate_left
  .skip
   refine rn 25 30 (U6 true) ?_ ?_
   ·(intro w tX;(try dsimp only at tX);go_simp;(try omega))
   refine dP [(26,31)] ?_
   iterate 1 refine bJ ?_
   refine jp ?_ _;have PP:=xh<|aC O0.o P2.o;go_wp2;go_ret;refine⟨?_,PP.o⟩
   cases b
   .first|rfl|simp
   .exfalso;have hr:=HB.o.1 rfl;have hl:=HL.o;unfold jn at hr;rw[HND.o]at hr;omega
  refine rn 25 30 (U6 false) ?_ ?_
  ·(intro w tX;(try dsimp only at tX);go_simp;(try omega))
  refine dP [(26,31)] ?_
  iterate 1 refine bJ ?_
  refine jp ?_ _;have PP:=xh<|aC O0.o P2.o;have B2:=xh<|B0.o.below P2.o B0.o.lt;have H2:=xh<|H0.o.below P2.o;have y2:w2.cell? ⟨w.heap.size,2,none⟩=some (U3 A n c):=B2.ap 2;go_wp2_with fail
  go_loopw [35] (λiv wr=> ∃i:Nat,i<=n/\iv=U5 By i/\Hid (∀j x,j<i->l[j]?=some x->0<=x/\x<=1023/\x∉l.take j)/\wr=w2) (λiv _=>n-(intOf iv).toNat)
  case atStart=>exact⟨0,aW _,rfl,xh (λj x h=>absurd h (mc _)),rfl⟩
  case round=>
   obtain⟨i,hi,rfl,HX,rfl⟩:=hrel
   by_cases h':i<n
   .obtain⟨ad,x,rfl,hx,ck⟩:=H2.o.at i h';have hiI:(i:Int)<(n:Int):=by omega
    have HXX:=xh hx;have HT:=xh<|H2.o.take i (by omega);clear hx;have NO:=xh (show ¬(0<=x/\x<=1023/\x∉l.take i)->b=false from λtY=>by
     cases b
     .rfl
     .exact absurd ((HB.o.1 rfl).2.2.2.2.2 i x HXX.o) tY)
    by_cases x0:x<0
    .go_wp2;go_ret;refine⟨?_,PP.o⟩;rw[NO.o (by omega)];first|rfl|simp
    .by_cases x1:1023<x
     .go_wp2;go_ret;refine⟨?_,PP.o⟩;rw[NO.o (by omega)];first|rfl|simp
     .obtain⟨q,hq⟩:=bool_of (x∈l.take i);have KC:=xh<|Hr (w:=wr) (some ad) i c (l.take i) x HT.o (by omega) q hq;have HQ:=xh hq;have hc:(i:Int)<=(c:Int):=by omega
      clear hq;go_wp2_with fail;go_call KC.o as e w3 ⟨rfl,rfl⟩
      cases q
      .have HX2:=xh (show ∀j z,j<i+1->l[j]?=some z->0<=z/\z<=1023/\z∉l.take j from λj z hj hz=>by
        rcases qg.1 hj with h1|rfl
        .exact HX.o j z h1 hz
        .rw[HXX.o]at hz;injection hz with hz;subst hz
         exact⟨by omega,by omega,λhm=>by have:=HQ.o.2 hm;cases this⟩)
       go_wp2_with fail;go_roundw
       case rel=>exact⟨i+1,by omega,by go_num,HX2,by first|rfl|trivial⟩
       case measure=>simp[intOf];omega
      .go_wp2;go_ret;refine⟨?_,PP.o⟩;rw[NO.o (λhx=>hx.2.2 (HQ.o.1 (by trivial)))];first|rfl|simp
   .obtain rfl:i=n:=by omega
    go_wp2;go_ret;refine⟨?_,PP.o⟩;have:jn ep lg l:=⟨by omega,by omega,by omega,by omega,by rw[HND.o,HL.o];exact h5,λj x hx=>HX.o j x (by have:=(aR.1 hx).1;rw[HL.o]at this;exact this) hx⟩;rw[HB.o.2 this];first|rfl|simp
 all_goals
  have PP:=xh<|aC O0.o OD.o;go_wp2;go_ret;refine⟨?_,PP.o⟩
  cases b
  .first|rfl|simp
  .exfalso;have hr:=HB.o.1 rfl;have hl:=HL.o;unfold jn at hr;omega
attribute [local go_sem ↓] bA
variable{w:YB}
def fD(n:Nat):pu:=[gn (n / 256),gn n]
theorem Hs{P:Program}{e:TypeId}{v:YO}{n:Nat}{l:List YO}(S:aM w e 1 v n l)
 (T ty:TypeId)(z:YO)(bytes:Nat)(ht:P.underlying T=some (.slice e))(nN:(P.info? e).map (λi=>(i.zero,i.size,i.bytes))=some (some z,1,bytes))(hz:z.cells.size=1)
 (news:List YO)(hx:∀u∈news,u.oneCell'=true)(Hc:n+news.length<=maxLen)(hb:(n+news.length)*bytes<=140737488355328):
  ∃v' w',dF P T ty (w.alloc (WF news.toArray e)) v (U3 (lc w.heap.size) news.length news.length)= .ok v' w'/\aM w' e 1 v' (n+news.length) (l++news)/\ag (ah v) w w'/\(∀g∈ah v',g∈ah v\/w.heap.size<=g):=by
 obtain⟨i0,hi,lz,jK,kl⟩:=info_parts nN;obtain⟨v',w',h1,h2,h3,h4⟩:=dE (P:=P) (S.alloc (WF news.toArray e)) T ty i0 z bytes ht hi lz jK kl hz (by omega)
  ⟨w.heap.size,0,none⟩ news.length news.length news (by simp) (bm (l:=news) (aF.new w e news.toArray) 0 _ (by intro j u hu;rw[bq];exact hu)) hx Hc hb
 exact⟨v',w',h1,h2,((ag.refl _ _).alloc _).aU h3 (λx hx _=>hx),λg hg=>(h4 g hg).imp id (λh=>by simp at h;omega)⟩
theorem fO(v:YO)(k:Nat)(l:pu)(S:aM w 5 1 v k (dR l))(n:Nat)(hn:n<=65535)(hk:k<=1000):
  eq prog 157 #[v,(n:Nat)] w λe w'=>(∃v',e=BY v'/\aM w' 5 1 v' (k+2) (dR (l++fD n))/\(∀g∈ah v',g∈ah v\/w.heap.size<=g))/\ag (ah v) w w':=by
 obtain⟨A,c,rfl⟩:=ax S;have e0:Value.int .u8 ((n:Int) / 256)=bv (gn (n / 256)):=by
  unfold bv
  congr 1
  rw[il];omega
 have e1:Value.int .u8 ((n:Int) % 256)=bv (gn n):=by
  unfold bv;rfl
 obtain⟨v',w2,ea,S2,ow,fr⟩:=Hs (P:=prog) S 150 150 (U5 .u8 0) 1 underlying150 ke.eV rfl [U5 .u8 ((n:Int) / 256),U5 .u8 ((n:Int) % 256)] (by intro u hu;simp at hu;rcases hu with rfl|rfl<;>rfl) (by simp;unfold maxLen;omega) (by simp;omega);obtain⟨V2,jh,rfl⟩:=ax S2
 have EA:=g9 (dF prog 150 150 (w.alloc (WF #[U5 .u8 ((n:Int) / 256),U5 .u8 ((n:Int) % 256)] 5)) (U3 A k c) (U3 (lc w.heap.size) 2 2)= .ok (U3 V2 (k+2) jh) w2) ea;have SX:=xh (show aM w2 5 1 (U3 V2 (k+2) jh) (k+2) (dR (l++fD n))from by
  rw[e0,e1]at S2;rw[dD];exact S2)
 have OX:=xh ow;have FX:=xh fr;clear ea S2 ow fr S e0 e1;go_in;go_wp;rw[EA.o];go_wp2;go_ret;exact⟨⟨_,rfl,SX.o,FX.o⟩,OX.o⟩
def oS(lg:Nat)(l:List Nat):pu:=(fD lg++fD l.length++(l++fd (5-l.length) 0).flatMap fD)++fd 30 0
def fH(ep:Int)(lg:Nat)(l:List Nat):pu:=df ep++ke.bT (oS lg l)++df ep
def lenV:YO->Nat
 |U3 _ n _=>n
 |_=>0
theorem WM(a0 a1 a2 a3 a4:Int)(w:YB)(k:Nat)(x:YO)(hx: #[Value.int By a0,a1,a2,a3,a4][k]?=some x):
  (Instr.index 231 (.agg #[a0,a1,a2,a3,a4]) (k:Int)).run prog w=.ok x w:=by
 have hm:(prog.info? 3).map (·.size)=some 1:=by kernel_rfl
 have hp:prog.plainKey 3=true:=by kernel_rfl
 have hk:k<5:=by
  rcases fC k 5 with h|h
  .exact h
  .rw[VU (by simpa using h)]at hx;cases hx
 cases hq:prog.info? 3 with
 |none=>simp[hq]at hm
 |some i=>
  simp only[hq,mf,Option.some.injEq]at hm;have:=run_part_plain (P:=prog) w hp hx;simp[Instr.index,asIntOf,run_underlying (by kernel_rfl),hk,sizeOf,typeInfo,hq,hm];exact this
def dM(l:List Nat):List Int:=l.map Int.ofNat
def WN(l:List Nat):List YO:=l.map λ(x:Nat)=>Value.int By (x:Int)
theorem NV{W:YB}{g:Nat}{A:Option Addr}{n c:Nat}{l:List Nat}(B:aF W g 231 #[U5 By 0,U5 By 0,U5 By 0,U5 By 0,U5 By 0])(H:jT W A n (dM l))(hl:l.length=n)(hn:n<=5):
  ∃w',(Builtin.copy_ #[60,60] 3 #[U3 (lc g) 5 5,U3 A n c]).run prog W=.ok (goInt n) w'/\aF w' g 231 (WN (l++fd (5-l.length) 0)).toArray/\ag [g] W w':=by
 cases A with
 |none=>
  have h0:n=0:=by
   by_cases h0:n=0
   .exact h0
   .obtain⟨ad,x,h1,_⟩:=H.at 0 (by omega)
    cases h1
  subst h0;have JE:l=[]:=oO hl;subst JE;refine⟨W,?_,B,ag.refl _ _⟩;simp[Builtin.copy_,run_underlying underlying60,Builtin.lenOf,Builtin.firstCells,storeCells]
 |some ad=>
  have hlen:(WN l).length=n:=by simp[WN,hl]
  obtain⟨w',e,B',o⟩:=AO (P:=prog) (cur:=[U5 By 0,U5 By 0,U5 By 0,U5 By 0,U5 By 0]) B 60 60 3 3 0 5 5 ad n c (WN l) underlying60 (by kernel_rfl) (by rw[hlen];exact(sM hn).symm)
   (λj v hv=>by
    have hj:j<l.length:=by have:=(aR.1 hv).1;simpa [WN]using this
    have hx:(dM l)[j]?=some (Int.ofNat l[j]):=by simp[dM,aH hj]
    obtain⟨ad',e1,h1⟩:=H.2 j _ hx;injection e1 with e1
    subst e1;simp only[WN,ir,aH hj,mf,Option.some.injEq]at hv;subst hv;exact h1) (by rw[hlen];exact(by omega:0+n<=5)) (by intro v hv;simp only[WN,cr]at hv;obtain⟨x,_,rfl⟩:=hv;rfl)
  rw[hlen]at e;refine⟨w',e,?_,o⟩;have:putAt [U5 By 0,U5 By 0,U5 By 0,U5 By 0,U5 By 0] 0 (WN l)=WN (l++fd (5-l.length) 0):=by
   unfold putAt;rw[jA,cQ,bq,hlen,hl];have hz:([U5 By 0,U5 By 0,U5 By 0,U5 By 0,U5 By 0]:List YO).drop n=WN (fd (5-n) 0):=by
    rcases(show n=0\/n=1\/n=2\/n=3\/n=4\/n=5 by omega)with rfl|rfl|rfl|rfl|rfl|rfl<;>rfl
   rw[hz];simp[WN]
  rw[<-this];exact B'
theorem JF{w:YB}(ep:Int)(lg:Nat)(A:Option Addr)(n c:Nat)(l:List Nat)(h:jT w A n (dM l))(Ha:n<=c)(hr:jn ep lg (dM l)):
  eq prog 102 #[E9 ep lg A n c] w λe w'=>e=BY (U8 #[U2 ⟨(fH ep lg l).toArray⟩,U5 By 0])/\i7 w w':=by
 have hn5:=lP hr;have qQ:l.length=n:=by have:=h.1;simpa [dM]using this
 have hn:n<=5:=by rw[<-qQ];simpa [dM]using hn5
 have hlg:lg<=512:=by have:=hr.2.2.2.1;omega
 have O0:=i6 w (WF #[ep,(lg:Int),U3 A n c] 155);have B0:=xh<|aF.new w 155 #[ep,(lg:Int),U3 A n c];have H0:=xh<|h.below O0;have KR:=xh<|xI (w:=w.alloc (WF #[ep,(lg:Int),U3 A n c] 155)) ep lg A n c (dM l) H0.o (by omega) Ha true (by simp[hr]);have O0:=xh O0;have HR:=xh hr;have ou:=xh qQ;clear h hr hn5;unfold E9 at *
 go_in;go_wp2_with fail;generalize hW:(w.alloc (WF #[ep,(lg:Int),U3 A n c] 155))=W at *;clear hW;go_call KR.o as e w1 ⟨rfl,aO⟩;have O1:=xh<|aC O0.o aO;have B1:=xh<|B0.o.below aO B0.o.lt;have H1:=xh<|H0.o.below aO;clear aO KR;go_wp2_with fail
 have HK:=g9 (∀W',i7 w1 W'->(W'.cell? (lc w.heap.size)=some (ep:li)/\W'.cell? ⟨w.heap.size,1,none⟩=some ((lg:Int):li)/\W'.cell? ⟨w.heap.size,2,none⟩=some (U3 A n c))) (λW' ho=>⟨(B1.o.below ho B1.o.lt).ab (i:=0) rfl,(B1.o.below ho B1.o.lt).ab (i:=1) rfl,(B1.o.below ho B1.o.lt).ab (i:=2) rfl⟩);have OD:=xh<|(i5 w1).drew
 refine kw (λW'=>W'.cell? (lc w.heap.size)=some (ep:li)/\W'.cell? ⟨w.heap.size,1,none⟩=some ((lg:Int):li)/\W'.cell? ⟨w.heap.size,2,none⟩=some (U3 A n c)) (HK.o _ OD.o) (λau=>?_);refine dP [(0,12),(1,13),(3,15),(4,16),(5,17)] ?_
 iterate 5 refine bJ ?_
 refine dI 2 14 λK hK=>?_;go_simp
 go_at_call 157
 go_call (fO _ 0 [] (aM.nil _ _ _) lg (by omega) (by omega)) as r w2 ⟨⟨v2,rfl,S2,F2⟩,o2⟩;have P2:=xh<|OD.o.trans (o2.aK OD.o.size (by simp[ah]));have F2:=g9 (∀g∈ah v2,w1.heap.size<=g) (λg hg=>(F2 g hg).elim (λh=>by simp[ah]at h) (λh=>aq OD.o.size h));go_simp;refine bn hK (HK.o _ P2.o) (λau=>?_);refine dI 6 18 λK hK=>?_;go_simp
 go_at_call 157
 go_call (fO _ 2 _ S2 n (by omega) (by omega)) as r w3 ⟨⟨v3,rfl,S3,F3⟩,o3⟩;have P3:=xh<|P2.o.trans (o3.aK P2.o.size F2.o);have F3:=g9 (∀g∈ah v3,w1.heap.size<=g) (λg hg=>(F3 g hg).elim (F2.o g) (λh=>aq P2.o.size h));go_simp;refine bn hK (HK.o _ P3.o) (λau=>?_);refine dP [(7,4)] ?_
 iterate 1 refine bJ ?_
 refine jp ?_ _;have O3:=xh<|aC O1.o P3.o;have B3:=xh<|B1.o.below P3.o B1.o.lt;have H3:=xh<|H1.o.below P3.o;have S3:=xh S3;obtain⟨V3,c3,rfl⟩:=ax S3.o;have F3:=g9 (∀g∈ah (U3 V3 4 c3),w.heap.size+1<=g) (λg hg=>aq (by have:=B1.o.lt;omega) (F3.o g hg));clear au o2 o3 S2 P2 P3 F2 OD HK;have BA:=xh<|aF.new w3 231 #[U5 By 0,U5 By 0,U5 By 0,U5 By 0,U5 By 0]
 have O4:=xh<|ae O3.o (WF #[U5 By 0,U5 By 0,U5 By 0,U5 By 0,U5 By 0] 231);have B4:=xh<|B3.o.alloc (WF #[U5 By 0,U5 By 0,U5 By 0,U5 By 0,U5 By 0] 231);have S4:=xh<|S3.o.alloc (WF #[U5 By 0,U5 By 0,U5 By 0,U5 By 0,U5 By 0] 231);have H4:=xh<|H3.o.below (i6 _ (WF #[U5 By 0,U5 By 0,U5 By 0,U5 By 0,U5 By 0] 231));go_wp2_with fail
 generalize hW:(w3.alloc _)=w4 at *;have W3LT:=B4.o.lt;have HK:=xh (show ∀W',ag [w3.heap.size] w4 W'->(W'.cell? (lc w.heap.size)=some (ep:li)/\W'.cell? ⟨w.heap.size,1,none⟩=some ((lg:Int):li)/\W'.cell? ⟨w.heap.size,2,none⟩=some (U3 A n c))from λW' ho=>by
  have fF:w.heap.size∉[w3.heap.size]:=by have:=B3.o.lt;simp;omega
  have B:=B4.o.only ho fF;exact⟨B.bi 0,B.bi 1,B.bi 2⟩)
 have OD:=xh<|(ag.refl [w3.heap.size] w4).drew;refine kw (λW'=>W'.cell? (lc w.heap.size)=some (ep:li)/\W'.cell? ⟨w.heap.size,1,none⟩=some ((lg:Int):li)/\W'.cell? ⟨w.heap.size,2,none⟩=some (U3 A n c)) (HK.o _ OD.o) (λau=>?_);refine dP [(0,19),(1,20),(2,21)] ?_
 iterate 3 refine bJ ?_
 refine dI 3 22 λK hK=>?_;obtain⟨w5,ec,BQ,oc⟩:=NV (W:=w4.drew) BA.o (show jT w4.drew A n (dM l)from H4.o.below (Below.refl _ _).drew) ou.o hn;have EC:=xh ec;have OC:=xh<|OD.o.trans oc;have BQ:=xh BQ;clear ec oc;go_simp;rw[EC.o];go_simp;refine bn hK (HK.o _ OC.o) (λau=>?_);refine jp ?_ _;have hq5:(l++fd (5-l.length) 0).length=5:=by rw[aT,eR];have:=ou.o;omega
 have hqs:∀x∈l++fd (5-l.length) 0,x<=1023:=by
  intro x hx
  rcases ay.1 hx with hx|hx
  .obtain⟨i,hi,rfl⟩:=p9 hx;have h1:=HR.o.2.2.2.2.2 i ((l[i]:Nat):Int) (by simp[dM];exact⟨l[i],aH hi,rfl⟩);omega
  .have:=oP hx;omega
 obtain⟨q,hqq⟩:∃q,l++fd (5-l.length) 0=q:=⟨_,rfl⟩;have HQQ:=xh hqq;rw[hqq]at BQ hq5 hqs;clear hqq
 match q,hq5 with
 |[q0,q1,q2,q3,q4],_=>
 have p0:q0<=1023:=hqs _ (by simp);have p1:q1<=1023:=hqs _ (by simp);have p2:q2<=1023:=hqs _ (by simp);have p3:q3<=1023:=hqs _ (by simp);have p4:q4<=1023:=hqs _ (by simp);have a0:w5.cell? (lc w3.heap.size)=some ((q0:Int):li):=BQ.ap 0;have a1:w5.cell? ⟨w3.heap.size,1,none⟩=some ((q1:Int):li):=BQ.ap 1;have a2:w5.cell? ⟨w3.heap.size,2,none⟩=some ((q2:Int):li):=BQ.ap 2
 have a3:w5.cell? ⟨w3.heap.size,3,none⟩=some ((q3:Int):li):=BQ.ap 3;have a4:w5.cell? ⟨w3.heap.size,4,none⟩=some ((q4:Int):li):=BQ.ap 4;have NW:w.heap.size<w3.heap.size:=B3.o.lt;have O5:=xh<|O4.o.trans (OC.o.aK O4.o.size (λx hx=>by simp at hx;omega));have B5:=xh<|B4.o.only OC.o (by simp;omega);have S5:=xh<|S4.o.only OC.o (λx hx=>by have:=S3.o.lt x hx;simp;omega);clear au hqs OD HK
 go_wp2_with fail;obtain⟨HD,hHD⟩:∃HD,[]++fD lg++fD n=HD:=⟨_,rfl⟩;have HHD:=xh hHD;rw[hHD]at S5;clear hHD a0 a1 a2 a3 a4 S4 S3
 go_loopw [4,24] (λsv iv wr=> ∃k:Nat,k<=5/\iv=U5 By (k:Int)/\aM wr 5 1 sv (4+2*k) (dR (HD++([q0,q1,q2,q3,q4].take k).flatMap fD))/\Hid (aF wr w.heap.size 155 #[ep,(lg:Int),U3 A n c])/\i7 w wr/\Hid (∀x∈ah sv,w.heap.size+1<=x)) (λ_ iv _=>5-(intOf iv).toNat)
 case atStart=>exact⟨0,by omega,rfl,by simpa using S5.o,B5,O5.o,F3⟩
 case round=>
  obtain⟨k,hk,rfl,S,C,O,F⟩:=hrel;obtain⟨VA,vc,rfl⟩:=ax S
  rcases(show k=0\/k=1\/k=2\/k=3\/k=4\/k=5 from by omega)with rfl|rfl|rfl|rfl|rfl|rfl
  .have K:=xh<|fO _ 4 _ S q0 (by omega) (by omega);have OO:=xh O;have IX:=xh (show(Instr.index 231 (.agg #[(q0:Int),(q1:Int),(q2:Int),(q3:Int),(q4:Int)]) (U5 By 0)).run prog wr=.ok (q0:Int) wr from WM q0 q1 q2 q3 q4 wr 0 _ rfl);clear S O;go_wp2_with fail;rw[IX.o];go_wp2_with fail;go_call K.o as r w7 ⟨⟨v7,rfl,S7,F7⟩,o7⟩
   have O7:=xh<|OO.o.trans (o7.aK OO.o.size (λx hx=>by have:=F.o x hx;omega));have C7:=xh<|C.o.only o7 (λhx=>by have:=F.o _ hx;omega);have F7:=g9 (∀x∈ah v7,w.heap.size+1<=x) (λx hx=>(F7 x hx).elim (F.o x) (λh=>by have:=C.o.lt;omega));have S7:=xh (show aM w7 5 1 v7 (4+2*(0+1)) (dR (HD++([q0,q1,q2,q3,q4].take (0+1)).flatMap fD))from by
    have hx:HD++([q0,q1,q2,q3,q4].take (0+1)).flatMap fD=(HD++([q0,q1,q2,q3,q4].take 0).flatMap fD)++fD q0:=by simp
    rw[hx];exact S7)
   obtain⟨V7,c7,rfl⟩:=ax S7.o;clear o7;go_wp2_with fail;go_roundw
   case rel=>exact⟨0+1,by omega,by first|rfl|go_num,S7.o,C7,O7.o,F7⟩
   case measure=>simp[intOf]
  .have K:=xh<|fO _ 6 _ S q1 (by omega) (by omega);have OO:=xh O;have IX:=xh (show(Instr.index 231 (.agg #[(q0:Int),(q1:Int),(q2:Int),(q3:Int),(q4:Int)]) (U5 By 1)).run prog wr=.ok (q1:Int) wr from WM q0 q1 q2 q3 q4 wr 1 _ rfl);clear S O;go_wp2_with fail;rw[IX.o];go_wp2_with fail;go_call K.o as r w7 ⟨⟨v7,rfl,S7,F7⟩,o7⟩
   have O7:=xh<|OO.o.trans (o7.aK OO.o.size (λx hx=>by have:=F.o x hx;omega));have C7:=xh<|C.o.only o7 (λhx=>by have:=F.o _ hx;omega);have F7:=g9 (∀x∈ah v7,w.heap.size+1<=x) (λx hx=>(F7 x hx).elim (F.o x) (λh=>by have:=C.o.lt;omega));have S7:=xh (show aM w7 5 1 v7 (4+2*(1+1)) (dR (HD++([q0,q1,q2,q3,q4].take (1+1)).flatMap fD))from by
    have hx:HD++([q0,q1,q2,q3,q4].take (1+1)).flatMap fD=(HD++([q0,q1,q2,q3,q4].take 1).flatMap fD)++fD q1:=by simp
    rw[hx];exact S7)
   obtain⟨V7,c7,rfl⟩:=ax S7.o;clear o7;go_wp2_with fail;go_roundw
   case rel=>exact⟨1+1,by omega,by first|rfl|go_num,S7.o,C7,O7.o,F7⟩
   case measure=>simp[intOf]
  .have K:=xh<|fO _ 8 _ S q2 (by omega) (by omega);have OO:=xh O;have IX:=xh (show(Instr.index 231 (.agg #[(q0:Int),(q1:Int),(q2:Int),(q3:Int),(q4:Int)]) (U5 By 2)).run prog wr=.ok (q2:Int) wr from WM q0 q1 q2 q3 q4 wr 2 _ rfl);clear S O;go_wp2_with fail;rw[IX.o];go_wp2_with fail;go_call K.o as r w7 ⟨⟨v7,rfl,S7,F7⟩,o7⟩
   have O7:=xh<|OO.o.trans (o7.aK OO.o.size (λx hx=>by have:=F.o x hx;omega));have C7:=xh<|C.o.only o7 (λhx=>by have:=F.o _ hx;omega);have F7:=g9 (∀x∈ah v7,w.heap.size+1<=x) (λx hx=>(F7 x hx).elim (F.o x) (λh=>by have:=C.o.lt;omega));have S7:=xh (show aM w7 5 1 v7 (4+2*(2+1)) (dR (HD++([q0,q1,q2,q3,q4].take (2+1)).flatMap fD))from by
    have hx:HD++([q0,q1,q2,q3,q4].take (2+1)).flatMap fD=(HD++([q0,q1,q2,q3,q4].take 2).flatMap fD)++fD q2:=by simp
    rw[hx];exact S7)
   obtain⟨V7,c7,rfl⟩:=ax S7.o;clear o7;go_wp2_with fail;go_roundw
   case rel=>exact⟨2+1,by omega,by first|rfl|go_num,S7.o,C7,O7.o,F7⟩
   case measure=>simp[intOf]
  .have K:=xh<|fO _ 10 _ S q3 (by omega) (by omega);have OO:=xh O;have IX:=xh (show(Instr.index 231 (.agg #[(q0:Int),(q1:Int),(q2:Int),(q3:Int),(q4:Int)]) (U5 By 3)).run prog wr=.ok (q3:Int) wr from WM q0 q1 q2 q3 q4 wr 3 _ rfl);clear S O;go_wp2_with fail;rw[IX.o];go_wp2_with fail;go_call K.o as r w7 ⟨⟨v7,rfl,S7,F7⟩,o7⟩
   have O7:=xh<|OO.o.trans (o7.aK OO.o.size (λx hx=>by have:=F.o x hx;omega));have C7:=xh<|C.o.only o7 (λhx=>by have:=F.o _ hx;omega);have F7:=g9 (∀x∈ah v7,w.heap.size+1<=x) (λx hx=>(F7 x hx).elim (F.o x) (λh=>by have:=C.o.lt;omega));have S7:=xh (show aM w7 5 1 v7 (4+2*(3+1)) (dR (HD++([q0,q1,q2,q3,q4].take (3+1)).flatMap fD))from by
    have hx:HD++([q0,q1,q2,q3,q4].take (3+1)).flatMap fD=(HD++([q0,q1,q2,q3,q4].take 3).flatMap fD)++fD q3:=by simp
    rw[hx];exact S7)
   obtain⟨V7,c7,rfl⟩:=ax S7.o;clear o7;go_wp2_with fail;go_roundw
   case rel=>exact⟨3+1,by omega,by first|rfl|go_num,S7.o,C7,O7.o,F7⟩
   case measure=>simp[intOf]
  .have K:=xh<|fO _ 12 _ S q4 (by omega) (by omega);have OO:=xh O;have IX:=xh (show(Instr.index 231 (.agg #[(q0:Int),(q1:Int),(q2:Int),(q3:Int),(q4:Int)]) (U5 By 4)).run prog wr=.ok (q4:Int) wr from WM q0 q1 q2 q3 q4 wr 4 _ rfl);clear S O;go_wp2_with fail;rw[IX.o];go_wp2_with fail;go_call K.o as r w7 ⟨⟨v7,rfl,S7,F7⟩,o7⟩
   have O7:=xh<|OO.o.trans (o7.aK OO.o.size (λx hx=>by have:=F.o x hx;omega));have C7:=xh<|C.o.only o7 (λhx=>by have:=F.o _ hx;omega);have F7:=g9 (∀x∈ah v7,w.heap.size+1<=x) (λx hx=>(F7 x hx).elim (F.o x) (λh=>by have:=C.o.lt;omega));have S7:=xh (show aM w7 5 1 v7 (4+2*(4+1)) (dR (HD++([q0,q1,q2,q3,q4].take (4+1)).flatMap fD))from by
    have hx:HD++([q0,q1,q2,q3,q4].take (4+1)).flatMap fD=(HD++([q0,q1,q2,q3,q4].take 4).flatMap fD)++fD q4:=by simp
    rw[hx];exact S7)
   obtain⟨V7,c7,rfl⟩:=ax S7.o;clear o7;go_wp2_with fail;go_roundw
   case rel=>exact⟨4+1,by omega,by first|rfl|go_num,S7.o,C7,O7.o,F7⟩
   case measure=>simp[intOf]
  .have OO:=xh O;have SS:=g9 (aM wr 5 1 (U3 VA 14 vc) 14 (dR (HD++[q0,q1,q2,q3,q4].flatMap fD))) S;clear S O;go_wp2_with fail;obtain⟨M,hM⟩:∃M,HD++[q0,q1,q2,q3,q4].flatMap fD=M:=⟨_,rfl⟩;have HM:=xh (show M++fd 30 0=oS lg l from by
    unfold oS;rw[<-hM,<-HHD.o,HQQ.o,ou.o,cQ])
   rw[hM]at SS;clear hM
   go_loopw [4] (λsv wx=> ∃j:Nat,j<=30/\aM wx 5 1 sv (14+j) (dR (M++fd j 0))/\Hid (aF wx w.heap.size 155 #[ep,(lg:Int),U3 A n c])/\i7 w wx/\Hid (∀x∈ah sv,w.heap.size+1<=x)) (λsv _=>44-lenV sv)
   case atStart=>exact⟨0,by omega,by simpa using SS.o,C,OO.o,F⟩
   case round=>
    obtain⟨j,hj,S,C,O,F⟩:=hrel;obtain⟨VB,vb,rfl⟩:=ax S
    by_cases h:j<30
    .have h1:(14:Int)+(j:Int)<44:=by omega
     have h2:14+j<44:=by omega
     have h3:((14+j:Nat):Int)<44:=by omega
     obtain⟨v8,w8,ea,S8,o8,f8⟩:=dG (P:=prog) S 150 150 (U5 .u8 0) 1 underlying150 ke.eV rfl (U5 .u8 0) rfl (by unfold maxLen;omega) (by omega);obtain⟨V8,c8,rfl⟩:=ax S8;have EA:=xh ea;have S9:=xh (show aM w8 5 1 (U3 V8 (14+(j+1)) c8) (14+(j+1)) (dR (M++fd (j+1) 0))from by
      rw[zV,<-cK,dD];exact S8)
     have O8:=xh<|O.trans (o8.aK O.size (λx hx=>by have:=F.o x hx;omega));have C8:=xh<|C.o.only o8 (λhx=>by have:=F.o _ hx;omega);have F8:=g9 (∀x∈ah (U3 V8 (14+(j+1)) c8),w.heap.size+1<=x) (λx hx=>(f8 x hx).elim (F.o x) (λh=>by have:=C.o.lt;omega));clear ea S8 o8 f8 S O;go_wp2_with fail;rw[EA.o];go_wp2_with fail;go_roundw
     case rel=>exact⟨_,_,_,_,_,_,_,⟨j+1,by omega,S9.o,C8,O8.o,F8⟩,rfl⟩
     case measure=>simp[lenV];omega
    .obtain rfl:j=30:=by omega
     have h2:¬((14+30:Nat):Int)<44:=by omega
     rw[HM.o]at S;obtain⟨gB,cap,rest,hv,BB,_,_⟩:=S.form (by omega) (by omega);simp only[Value.slice.injEq,true_and]at hv;obtain⟨rfl,rfl⟩:=hv;have ST:=xh<|cu (P:=prog) wr 150 9 5 underlying150 underlying5 underlying9 ⟨gB,0,none⟩ 44 vb (oS lg l) (by have:=S.1;simpa using this) (bm BB 0 _ (by intro j u hu;rw[bq];exact bE (aR.1 hu).1▸hu))
     have pX:(oS lg l).length=44:=by have:=S.1;simpa using this
     obtain⟨T,hT⟩:∃T:rd,(⟨(oS lg l).toArray⟩:rd)=T:=⟨_,rfl⟩;have hTz:T.size=44:=by rw[<-hT];show(oS lg l).toArray.size=44;simpa using pX
     have MP:T.data.toList=oS lg l:=by rw[<-hT]
     rw[hT]at ST;have KY:=xh<|ke.Ah T wr (by omega);rw[MP]at KY;have OO9:=xh O;have hlen48:(ke.bT (oS lg l)).length=48:=by unfold ke.bT;simp[ke.jL,pX]
     have vL:(df ep).length=8:=by unfold df wY;rw[qo]
     obtain⟨L,hL⟩:∃L:rd,(⟨(ke.bT (oS lg l)).toArray⟩:rd)=L:=⟨_,rfl⟩;obtain⟨PI,hPI⟩:∃L:rd,(⟨(df ep).toArray⟩:rd)=L:=⟨_,rfl⟩;have hLz:L.size=48:=by rw[<-hL];show(ke.bT (oS lg l)).toArray.size=48;simpa using hlen48
     have hPz:PI.size=8:=by rw[<-hPI];show(df ep).toArray.size=8;simpa using vL
     have WO:=xh (show PI++L++PI=(⟨(fH ep lg l).toArray⟩:rd)from by
      rw[<-hL,<-hPI];apply jQ;apply qP.1;unfold fH;simp)
     rw[hL]at KY;have KI:=xh (λw=>I_any ep (by have:=HR.o.1;omega) HR.o.2.1 w);rw[hPI]at KI;clear S O BB hT MP hL hPI pX hTz;go_wp2_with fail;rw[ST.o];go_wp2_with fail;go_call KY.o as e w9 ⟨rfl,Vv⟩;have O9:=xh<|aC OO9.o Vv;have B9:=xh<|C.o.below Vv C.o.lt;clear Vv;go_wp2_with fail
     have HK:=g9 (∀W',i7 w9 W'->W'.cell? (lc w.heap.size)=some (ep:li)) (λW' ho=>(B9.o.below ho B9.o.lt).ab (i:=0) rfl);have OD:=xh<|(i5 w9).drew;have z1:¬9223372036854775807<PI.size+L.size:=by omega
     have z2:¬9223372036854775807<PI.size+L.size+PI.size:=by omega
     clear hLz hPz;refine kw (λW'=>W'.cell? (lc w.heap.size)=some (ep:li)) (HK.o _ OD.o) (λau=>?_);refine dP [(0,40),(1,41),(3,43),(5,45),(6,46)] ?_
     iterate 5 refine bJ ?_
     refine dI 2 42 λK hK=>?_;go_simp
     go_at_call 88
     go_call (KI.o _) as r wa ⟨rfl,hba⟩;have Pa:=xh<|aC OD.o hba;go_simp;refine bn hK (HK.o _ Pa.o) (λau=>?_);refine dP [(4,44)] ?_
     iterate 1 refine bJ ?_
     refine dI 7 47 λK hK=>?_;go_simp
     go_at_call 88
     go_call (KI.o _) as r wb ⟨rfl,vR⟩;have Pb:=xh<|aC Pa.o vR;go_simp;refine bn hK (HK.o _ Pb.o) (λau=>?_);refine dP [(8,48),(9,2),(10,3)] ?_
     iterate 3 refine bJ ?_
     refine jp ?_ _;have OF:=xh<|aC O9.o Pb.o;go_wp2;go_ret2;exact⟨by rw[<-WO.o];rfl,OF.o⟩
end Rt
end Go.Proofs.YtmonobkginiajaaGreat
