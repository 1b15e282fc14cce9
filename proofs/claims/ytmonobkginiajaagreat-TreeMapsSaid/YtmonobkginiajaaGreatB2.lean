/- packed. -/
import Derived.Test.YtmonobkginiajaaGreatB1
set_option linter.all false
set_option maxRecDepth 100000
set_option maxHeartbeats 8000000
namespace Go.Proofs.YtmonobkginiajaaGreat
open Go.Proofs.Tryz
namespace Dk
open Go.RowKit
variable{F c:List UInt8}{o n i:Nat}
def sec(F:List UInt8)(i:Nat):List UInt8:=(F.drop (64*i)).take 64
def lay(F:List UInt8)(o:Nat)(c:List UInt8):List UInt8:=F.take o++c++F.drop (o+c.length)
def gv(F:List UInt8)(i:Nat)(c:List UInt8):List UInt8:=lay F (64*i) c
theorem iO(h:o+c.length<=F.length):(lay F o c).length=F.length:=by
 simp[lay];omega
theorem ua(F:List UInt8)(o:Nat)(c:List UInt8):putAt (dI F) o (dI c)=dI (lay F o c):=by
 simp[putAt,lay,dI]
theorem my(hF:F.length=64*n)(hi:i<n):(sec F i).length=64:=by
 simp[sec];omega
theorem oL(h:o+c.length<=F.length)(j:Nat):(lay F o c)[j]?=if o<=j/\j<o+c.length then c[j-o]? else F[j]?:=by
 unfold lay
 by_cases h1:j<o
 .rw[if_neg (by omega),cr,bF (by simp;omega),pN h1]
 .have e:(F.take o).length=o:=by simp;omega
  by_cases h2:j<o+c.length
  .rw[if_pos ⟨by omega,h2⟩,cr,dW (by omega),e,bF (by omega)]
  .rw[if_neg (by omega),dW (by simp;omega),gI]
   congr 1
   simp;omega
theorem yx(F:List UInt8)(i j:Nat):(sec F i)[j]?=if j<64 then F[64*i+j]? else none:=by
 unfold sec
 by_cases h:j<64
 .rw[if_pos h,pN h,gI]
 .rw[if_neg h,gu (by simp;omega)]
theorem Nk{k:Nat}(hF:F.length=64*n)(hi:i<n)(hc:c.length=64)(_hk:k<n):sec (gv F i c) k=if i=k then c else sec F k:=by
 apply mu;intro j;rw[yx];unfold gv;rw[oL (by omega)]
 by_cases hj:j<64
 .rw[if_pos hj,hc]
  by_cases e:i=k
  .subst e;rw[if_pos ⟨by omega,by omega⟩,if_pos rfl]
   congr 1;omega
  .rw[if_neg (by omega),if_neg e,yx,if_pos hj]
 .rw[if_neg hj]
  split
  .rw[gu (by omega)]
  .rw[yx,if_neg hj]
def ki(s:List UInt8):List UInt8:=s.take 64++List.replicate (64-s.length) 0
theorem kk(s:List UInt8):(ki s).length=64:=by simp[ki];omega
theorem Pf(F s:List UInt8)(hF:F.length=64*n)(hi:i<n):lay (gv F i (List.replicate 64 0)) (64*i) (s.take 64)=gv F i (ki s):=by
 have h0:(gv F i (List.replicate 64 0)).length=F.length:=iO (by simp;omega);apply mu;intro j;have hz:=kk s;rw[oL (by rw[h0];simp;omega)];unfold gv;rw[oL (by simp;omega),oL (by omega),hz];simp only[bm,ez]
 by_cases h1:64*i<=j/\j<64*i+min 64 s.length
 .rw[if_pos h1,if_pos (by omega),ki,bF (by simp;omega)]
 .rw[if_neg h1]
  by_cases h2:64*i<=j/\j<64*i+64
  .rw[if_pos h2,if_pos h2,ki,dW (by simp;omega),D8,D8];simp only[bm];rw[if_pos (by omega),if_pos (by omega)]
  .rw[if_neg h2,if_neg h2]
structure D where
 now:List UInt8
 bX:List UInt8
 loose:List Bool
 bt:Int
 calls:Int
 down:Bool
structure D.Ok(d:D)(n:Nat):Prop where
 now:d.now.length=64*n
 bX:d.bX.length=64*n
 loose:d.loose.length=n
 small:n<=4096
 bt:0<=d.bt
 calls:0<=d.calls
def D.fJ(d:D):Int:=if d.down then 13 else 0
def D.jM(d:D)(n:Nat)(i:Int):Int:=if d.down then 13 else if 0<=i/\i<n then 0 else 3
def D.cN(d:D):D×Int:=
 if d.bt=0 then({d with calls:=d.calls+1},0)
 else if d.bt=1 then({d with calls:=d.calls+1,bt:=0,down:=true},13)
 else({d with calls:=d.calls+1,bt:=d.bt-1,down:=false},0)
def D.iz(d:D)(i:Nat):D:=if d.loose.getD i false then d else {d with bX:=gv d.bX i (sec d.now i),loose:=d.loose.set i true}
def D.dM(d:D)(i:Nat)(s:List UInt8):D:={d.iz i with now:=gv d.now i (ki s)}
def D.aD(d:D)(n:Nat)(i:Int)(s:List UInt8):D×Int:=
 if d.jM n i=0 then(d.dM i.toNat s).cN else(d,d.jM n i)
def D.et(d:D):D×Int:=
 if d.down then(d,13)else if d.cN.2=0 then({d.cN.1 with loose:=List.replicate d.loose.length false},0)else d.cN
theorem D.Ok.count{d:D}(h:d.Ok n):(d.cN).1.Ok n:=by
 have:=h.calls;have:=h.bt;unfold D.cN
 split
 .exact⟨h.now,h.bX,h.loose,h.small,h.bt,by show 0<=d.calls+1;omega⟩
 .split
  .exact⟨h.now,h.bX,h.loose,h.small,jI 0,by show 0<=d.calls+1;omega⟩
  .exact⟨h.now,h.bX,h.loose,h.small,by show 0<=d.bt-1;omega,by show 0<=d.calls+1;omega⟩
theorem D.Ok.pD{d:D}(h:d.Ok n)(i:Nat)(hi:i<n):(d.iz i).Ok n:=by
 unfold D.iz
 split
 .exact h
 .have e:=my h.now hi;have:=h.bX;exact⟨h.now,by show(gv d.bX i (sec d.now i)).length=_;unfold gv;rw[iO (by omega)];exact h.bX,by show(d.loose.set i true).length=_;rw[bW];exact h.loose,h.small,h.bt,h.calls⟩
theorem D.Su(d:D)(i:Nat):(d.iz i).now=d.now:=by unfold D.iz;split<;>rfl
theorem D.Ok.put{d:D}(h:d.Ok n)(i:Nat)(s:List UInt8)(hi:i<n):(d.dM i s).Ok n:=by
 have hk:=h.pD i hi;have e:=kk s;have:=h.now;exact⟨by show(gv d.now i (ki s)).length=_;unfold gv;rw[iO (by omega)];exact h.now,hk.bX,hk.loose,hk.small,hk.bt,hk.calls⟩
theorem D.Ok.write{d:D}(h:d.Ok n)(i:Int)(s:List UInt8):(d.aD n i s).1.Ok n:=by
 unfold D.aD
 split
 .rename_i ha;have hi:0<=i/\i<n:=by
   unfold D.jM at ha
   split at ha
   .cases ha
   .split at ha
    .assumption
    .cases ha
  exact(h.put i.toNat s (by omega)).count
 .exact h
theorem D.Ok.sync{d:D}(h:d.Ok n):(d.et).1.Ok n:=by
 have hc:=h.count;unfold D.et
 split
 .exact h
 .split
  .exact⟨hc.now,hc.bX,by show(List.replicate d.loose.length false).length=n;simp;exact h.loose,hc.small,hc.bt,hc.calls⟩
  .exact hc
variable{w:World}{g:Nat}{t:TypeId}{l:List Value}
noncomputable def Nl(w:World)(v:Value):Result Value:=(Instr.loadAt 152 v).run prog w
noncomputable def Nn(w:World)(a v:Value):Result Unit:=(Instr.storeAt 152 a v).run prog w
theorem Es(ρ:Operand->Value)(dst:Option Tmp)(x:Operand)(t:TypeId)(p:String)(af:Array Edge)(g:Option (Nat×Bool))(w:World):
  (execOp ρ {dst:=dst,op:= .load 152 x,type:=t,pos:=p,after:=af,guard:=g}).run prog w=(Nl w (ρ x)).andThen λv w'=> .ok (.value v) w':=by
 simp only[execOp,Sem.run_bind,Sem.run_pure];rfl
theorem Et(ρ:Operand->Value)(dst:Option Tmp)(x y:Operand)(t:TypeId)(p:String)(af:Array Edge)(g:Option (Nat×Bool))(w:World):
  (execOp ρ {dst:=dst,op:= .store 152 x y,type:=t,pos:=p,after:=af,guard:=g}).run prog w=(Nn w (ρ x) (ρ y)).andThen λ_ w'=> .ok .skip w':=by
 simp only[execOp,Sem.run_bind,Sem.run_pure];rfl
noncomputable def pQ:Value:= .agg (dI (List.replicate 64 0)).toArray
theorem vv(ρ:Operand->Value)(dst:Option Tmp)(t:TypeId)(p:String)(af:Array Edge)(g:Option (Nat×Bool))(w:World):
  (execOp ρ {dst:=dst,op:= .build 152 #[],type:=t,pos:=p,after:=af,guard:=g}).run prog w=.ok (.value pQ) w:=by kernel_rfl
theorem Gz:prog.underlying 152=some (.array 64 5):=underlying152
theorem yT:(prog.info? 152).map (·.size)=some 64:=by kernel_rfl
theorem Sv(B:aJ w g t l.toArray)(o:Nat)(c:List Value)(hc:c.length=64)(h:∀j v,c[j]?=some v->l[o+j]?=some v):
  Nl w (.pointer (some ⟨g,o,none⟩))= .ok (.agg c.toArray) w:=by
 have hl:=run_loadCells_list (P:=prog) w ⟨g,o,none⟩ c (bq B o c h);rw[hc]at hl;unfold Nl Instr.loadAt;obtain⟨i,hi,hs⟩:∃i,prog.info? 152=some i/\i.size=64:=by
  have:=yT
  cases hq:prog.info? 152 with
  |none=>rw[hq]at this;cases this
  |some i=>rw[hq]at this;exact⟨i,rfl,by simpa using this⟩
 simp[Instr.sureAddr,loadVar,isAgg,run_underlying Gz,sizeOf,typeInfo,hi,hs,hl,Result.andThen]
theorem GA(B:aJ w g t l.toArray)(o:Nat)(c:List Value)(hc:c.length=64)(ho:o+64<=l.length)(h1:∀v∈c,v.oneCell'=true):
  ∃w',Nn w (.pointer (some ⟨g,o,none⟩)) (.agg c.toArray)= .ok () w'/\aJ w' g t (putAt l o c).toArray/\ag [g] w w':=by
 have uV:=run_storeCells_cells (P:=prog) g o c 0 w (λj hj=>by rw[B.cell];simp;omega) (λj hj=>B.frozen _ (by simp;omega)) h1;refine⟨w.setCells g o c,?_,B.setCells c o (by omega),(ag.refl _ _).setCells c o (by simp)⟩;unfold Nn Instr.storeAt;obtain⟨i,hi,hs⟩:∃i,prog.info? 152=some i/\i.size=64:=by
  have:=yT
  cases hq:prog.info? 152 with
  |none=>rw[hq]at this;cases this
  |some i=>rw[hq]at this;exact⟨i,rfl,by simpa using this⟩
 simp only[iw]at uV;simp[Instr.sureAddr,storeVar,Value.cells,sizeOf,typeInfo,hi,hs,hc,uV,Result.andThen]
variable{w:World}{n:Nat}{d:D}
structure Loc where
 b:Nat
 gN:Nat
 gO:Nat
 gL:Nat
def Loc.fp(L:Loc):List Nat:=[L.b,L.gN,L.gO,L.gL]
def px(l:List Bool):List Value:=l.map Value.bool
@[simp] theorem bools_length(l:List Bool):(px l).length=l.length:=by simp[px]
theorem Cp(l:List Bool)(k:Nat)(h:k<l.length):(px l)[k]?=some (.bool (l.getD k false)):=by
 simp[px,List.getD,h]
theorem Ph(l:List Bool)(k:Nat)(x:Bool):(px l).set k (.bool x)=px (l.set k x):=by simp[px]
def fields(L:Loc)(n:Nat)(d:D):Array Value:=
 #[.slice (some ⟨L.gN,0,none⟩) n n,.slice (some ⟨L.gO,0,none⟩) n n,.slice (some ⟨L.gL,0,none⟩) n n,.int .i64 d.bt,.int .i64 d.calls,.bool d.down]
structure aZ(w:World)(L:Loc)(n:Nat)(d:D):Prop where
 hb:aJ w L.b 149 (fields L n d)
 hN:aJ w L.gN 152 (dI d.now).toArray
 hO:aJ w L.gO 152 (dI d.bX).toArray
 hL:aJ w L.gL 4 (px d.loose).toArray
 ne:L.gN≠L.gO
 ok:d.Ok n
section
variable{w w':World}{L:Loc}{n:Nat}{d:D}{S:List Nat}
theorem aZ.only(h:aZ w L n d)(ho:ag S w w')(hd:∀x∈L.fp,x∉S):aZ w' L n d:=
 ⟨h.hb.only ho (hd _ (by simp[Loc.fp])),h.hN.only ho (hd _ (by simp[Loc.fp])),h.hO.only ho (hd _ (by simp[Loc.fp])),h.hL.only ho (hd _ (by simp[Loc.fp])),h.ne,h.ok⟩
theorem aZ.below(h:aZ w L n d)(hb:Below w.heap.size w w'):aZ w' L n d:=h.only (S:=[]) (.aj hb) (by simp)
theorem aZ.drew(h:aZ w L n d):aZ w.drew L n d:=⟨h.hb,h.hN,h.hO,h.hL,h.ne,h.ok⟩
theorem aZ.lt(h:aZ w L n d):∀x∈L.fp,x<w.heap.size:=by
 intro x hx;simp only[Loc.fp,an,gX,or_false]at hx
 rcases hx with rfl|rfl|rfl|rfl
 .exact h.hb.lt
 .exact h.hN.lt
 .exact h.hO.lt
 .exact h.hL.lt
theorem aZ.bN(h:aZ w L n d):L.b≠L.gN:=h.hb.k7 h.hN (by decide)
theorem aZ.bO(h:aZ w L n d):L.b≠L.gO:=h.hb.k7 h.hO (by decide)
theorem aZ.bL(h:aZ w L n d):L.b≠L.gL:=h.hb.k7 h.hL (by decide)
theorem aZ.LN(h:aZ w L n d):L.gL≠L.gN:=h.hL.k7 h.hN (by decide)
theorem aZ.LO(h:aZ w L n d):L.gL≠L.gO:=h.hL.k7 h.hO (by decide)
theorem aZ.f0(h:aZ w L n d):w.cell? ⟨L.b,0,none⟩=some (.slice (some ⟨L.gN,0,none⟩) n n):=h.hb.ab rfl
theorem aZ.f1(h:aZ w L n d):w.cell? ⟨L.b,1,none⟩=some (.slice (some ⟨L.gO,0,none⟩) n n):=h.hb.ab rfl
theorem aZ.f2(h:aZ w L n d):w.cell? ⟨L.b,2,none⟩=some (.slice (some ⟨L.gL,0,none⟩) n n):=h.hb.ab rfl
theorem aZ.f3(h:aZ w L n d):w.cell? ⟨L.b,3,none⟩=some (.int .i64 d.bt):=h.hb.ab rfl
theorem aZ.f4(h:aZ w L n d):w.cell? ⟨L.b,4,none⟩=some (.int .i64 d.calls):=h.hb.ab rfl
theorem aZ.f5(h:aZ w L n d):w.cell? ⟨L.b,5,none⟩=some (.bool d.down):=h.hb.ab rfl
theorem aZ.fz(h:aZ w L n d)(i:Nat)(hi:i<6):w.frozen? ⟨L.b,i,none⟩=false:=h.hb.frozen i (by simpa [fields]using hi)
theorem aZ.head(h:aZ w L n d){d':D}(B:aJ w' L.b 149 (fields L n d'))(ho:ag [L.b] w w')(e1:d'.now=d.now)(e2:d'.bX=d.bX)(e3:d'.loose=d.loose)(fu:d'.Ok n):aZ w' L n d':=by
 refine⟨B,?_,?_,?_,h.ne,fu⟩
 .rw[e1];exact h.hN.only ho (by simp;exact λe=>h.bN e.symm)
 .rw[e2];exact h.hO.only ho (by simp;exact λe=>h.bO e.symm)
 .rw[e3];exact h.hL.only ho (by simp;exact λe=>h.bL e.symm)
end
def dp(b:Nat):Value:= .pointer (some ⟨b,0,none⟩)
theorem jg{L:Loc}(h:aZ w L n d):
  Calls prog 77 #[dp L.b] w λe w'=>e=.returned (.int .i64 d.fJ)/\w=w':=by
 have f5:=h.f5;unfold dp D.fJ;clear h
 cases hd:d.down
 all_goals
  rw[hd]at f5;go_enter func77,ntmps77
  go_wp2
  go_ret;exact⟨rfl,rfl⟩
theorem pR{L:Loc}(h:aZ w L n d)(i:Int):
  Calls prog 134 #[dp L.b,.int .i64 i] w λe w'=>e=.returned (.int .i64 (d.jM n i))/\w=w':=by
 have f0:=h.f0;have hn:=h.ok.small;have K:=xh (jg h);unfold D.fJ at K;unfold D.jM;unfold dp at *;clear h
 cases hd:d.down
 .rw[hd]at K;simp only[pw,if_false]at K ⊢
  by_cases hi:0<=i/\i<n
  .rw[if_pos hi];obtain⟨h0,h1⟩:=hi;go_enter func134,ntmps134;go_wp2_with fail;refine K.o.mono ?_;rintro e w1 ⟨rfl,rfl⟩;go_wp2_with fail;go_ret;exact⟨rfl,rfl⟩
  .rw[if_neg hi];have oE:i<0\/(¬i<0/\(n:Int)<=i):=by omega
   clear hi
   rcases oE with h1|⟨h1,h2⟩
   all_goals
    go_enter func134,ntmps134;go_wp2_with fail;refine K.o.mono ?_;rintro e w1 ⟨rfl,rfl⟩;go_wp2_with fail;go_ret;exact⟨rfl,rfl⟩
 .rw[hd]at K;simp only[if_true]at K ⊢;go_enter func134,ntmps134;go_wp2_with fail;refine K.o.mono ?_;rintro e w1 ⟨rfl,rfl⟩;go_wp2_with fail;go_ret;exact⟨rfl,rfl⟩
theorem sC{L:Loc}(h:aZ w L n d)(hc:d.calls<=4000000000000000000)(ha:d.bt<=9223372036854775807):
  Calls prog 159 #[dp L.b] w λe w'=>e=.returned (.int .i64 d.cN.2)/\aZ w' L n d.cN.1/\ag [L.b] w w':=by
 have f3:=h.f3;have f4:=h.f4;have z3:=h.fz 3 (by omega);have z4:=h.fz 4 (by omega);have z5:=h.fz 5 (by omega);have f5:=h.f5;have a0:=h.ok.bt;have c0:=h.ok.calls;have H:=xh h;have B:=xh h.hb;have OKC:=xh h.ok.count;clear h
 by_cases h0:d.bt=0
 .have e1:d.cN=({d with calls:=d.calls+1},0):=by unfold D.cN;rw[if_pos h0]
  rw[e1];rw[e1]at OKC;rw[h0]at f3;have HA:=xh h0;clear h0 e1;unfold dp;go_enter func159,ntmps159;go_wp2_with fail;go_ret;have o1:ag [L.b] w (w.setCell ⟨L.b,4,none⟩ (.int .i64 (d.calls+1))):=(ag.refl _ _).setCell (by simp) _;exact⟨rfl,H.o.head (B.o.bE 4 _) o1 rfl rfl rfl OKC.o,o1⟩
 .by_cases h1:d.bt=1
  .have e1:d.cN=({d with calls:=d.calls+1,bt:=0,down:=true},13):=by unfold D.cN;rw[if_neg h0,if_pos h1]
   rw[e1];rw[e1]at OKC;rw[h1]at f3;have o1:ag [L.b] w (((w.setCell ⟨L.b,4,none⟩ (.int .i64 (d.calls+1))).setCell ⟨L.b,3,none⟩ (.int .i64 0)).setCell ⟨L.b,5,none⟩ (.bool true)):=(((ag.refl _ _).setCell (by simp) _).setCell (by simp) _).setCell (by simp) _;have D1:=H.o.head (d':={d with calls:=d.calls+1,bt:=0,down:=true}) ((((B.o.bE 4 (.int .i64 (d.calls+1))).bE 3 (.int .i64 0)).bE 5 (.bool true))) o1 rfl rfl rfl OKC.o;have K:=xh (jg D1);have D1:=xh D1
   have O1:=xh o1;clear h0 h1 e1 o1;unfold D.fJ dp at *;go_enter func159,ntmps159;go_wp2_with fail;refine K.o.mono ?_;rintro e w1 ⟨rfl,rfl⟩;go_wp2_with fail;go_ret;exact⟨rfl,D1.o,O1.o⟩
  .have e1:d.cN=({d with calls:=d.calls+1,bt:=d.bt-1,down:=false},0):=by unfold D.cN;rw[if_neg h0,if_neg h1]
   rw[e1];rw[e1]at OKC;have o1:ag [L.b] w (((w.setCell ⟨L.b,4,none⟩ (.int .i64 (d.calls+1))).setCell ⟨L.b,3,none⟩ (.int .i64 (d.bt-1))).setCell ⟨L.b,5,none⟩ (.bool false)):=(((ag.refl _ _).setCell (by simp) _).setCell (by simp) _).setCell (by simp) _;have D1:=H.o.head (d':={d with calls:=d.calls+1,bt:=d.bt-1,down:=false}) ((((B.o.bE 4 (.int .i64 (d.calls+1))).bE 3 (.int .i64 (d.bt-1))).bE 5 (.bool false))) o1 rfl rfl rfl OKC.o;have K:=xh (jg D1)
   have D1:=xh D1;have O1:=xh o1;have t0:(d.bt==0)=false:=by simpa using h0
   have t1:(d.bt-1==0)=false:=by simp;omega
   clear e1 o1;unfold D.fJ dp at *;go_enter func159,ntmps159;go_wp2_with fail;refine K.o.mono ?_;rintro e w1 ⟨rfl,rfl⟩;go_wp2_with fail;go_ret;exact⟨rfl,D1.o,O1.o⟩
attribute [local go_sem ↓] Es Et vv
variable{k n:Nat}{w:World}{L:Loc}
theorem Cq{F:List UInt8}(j:Nat)(v:Value)(h:(dI (sec F k))[j]?=some v):(dI F)[k*64+j]?=some v:=by
 rw[yt,yx]at h;rw[yt]
 split at h
 .rw[show k*64+j=64*k+j by omega];exact h
 .simp at h
def D.aP(d:D)(n:Nat)(i:Int):List UInt8×Int:=if d.jM n i=0 then(sec d.now i.toNat,0)else([],d.jM n i)
theorem Sw{d:D}{i:Int}(h:d.jM n i=0):0<=i/\i<n:=by
 unfold D.jM at h
 split at h
 .cases h
 .split at h
  .assumption
  .cases h
theorem Cr(d:D)(n:Nat)(i:Int):d.jM n i=0\/((d.jM n i==0)=false):=by
 by_cases h:d.jM n i=0
 .exact .inl h
 .exact .inr (by simpa using h)
theorem nH{d:D}(h:aZ w L n d)(i:Int):
  Calls prog 79 #[dp L.b,.int .i64 i] w λe w'=>e=.returned (.tuple #[.string ⟨(d.aP n i).1.toArray⟩,.int .i64 (d.aP n i).2])/\w=w':=by
 have K:=xh (pR h i);have hn:=h.ok.small
 rcases Cr d n i with ha|ha
 .have hi:=Sw ha;have e1:d.aP n i=(sec d.now i.toNat,0):=by unfold D.aP;rw[if_pos ha]
  rw[e1];rw[ha]at K;obtain⟨k,rfl⟩:=eT hi.1;have hk:k<n:=by omega
  have f0:=h.f0;have uV:=λ(a b:Nat) (ha:64=a) (hb:k*64=b)=>(cg (P:=prog) w 150 9 5 underlying150 underlying5 underlying9 ⟨L.gN,b,none⟩ a a (sec d.now k) (ha▸my h.ok.now hk) (hb▸bq h.hN (k*64) _ Cq));have HS:=xh (uV 64 (k*64) rfl rfl);clear uV e1 ha hi h;unfold dp at *;go_enter func79,ntmps79;go_wp2_with fail;refine K.o.mono ?_;rintro e w1 ⟨rfl,rfl⟩;go_wp2_with fail;rw[HS.o];go_wp2_with fail;go_ret2;exact⟨rfl,rfl⟩
 .have e1:d.aP n i=([],d.jM n i):=by unfold D.aP;rw[if_neg (by simpa using ha)]
  rw[e1];generalize d.jM n i=x at *;clear e1 h;unfold dp at *;go_enter func79,ntmps79;go_wp2_with fail;refine K.o.mono ?_;rintro e w1 ⟨rfl,rfl⟩;go_wp2_with fail;go_ret2;exact⟨rfl,rfl⟩
theorem Pj(F:List UInt8)(s:ByteArray)(hF:F.length=64*n)(hk:k<n):
  putAt (putAt (dI F) (k*64) (dI (List.replicate 64 0))) (k*64) (dI (s.data.toList.take (Nat.min s.size 64)))=dI (gv F k (ki s.data.toList)):=by
 rw[ua,ua,<-Pf F s.data.toList hF hk];have e:s.data.toList.take (Nat.min s.size 64)=s.data.toList.take 64:=by
  rcases Nat.le_total s.size 64 with h|h
  .rw[show Nat.min s.size 64=s.size from oC h,cy (by simp),cy (by simpa using h)]
  .rw[show Nat.min s.size 64=64 from Nat.min_eq_right h]
 rw[e,show k*64=64*k from tR _ _];rfl
theorem oF:(prog.info? 5).map (·.size)=some 1:=by kernel_rfl
theorem Nq{d:D}(h:aZ w L n d)(k:Nat)(hk:k<n)(s:ByteArray):
  ∃w1,Nn w (.pointer (some ⟨L.gN,k*64,none⟩)) pQ=.ok () w1/\ag [L.gN] w w1/\
   ∃w2,(Builtin.copy_ #[150,9] 3 #[.slice (some ⟨L.gN,k*64,none⟩) 64 64,.string s]).run prog w1=.ok (goInt (Nat.min s.size 64)) w2/\aZ w2 L n {d with now:=gv d.now k (ki s.data.toList)}/\ag [L.gN] w w2:=by
 have hlen:=h.ok.now;obtain⟨w1,e1,B1,o1⟩:=GA h.hN (k*64) (dI (List.replicate 64 0)) (by simp) (by simp;omega) (tV _);obtain⟨w2,e2,B2,o2⟩:=mW (P:=prog) B1 150 9 3 5 (k*64) 64 64 s (Nat.min s.size 64) underlying150 oF rfl (by rw[ke (by simp;omega)];have hm:Nat.min s.size 64<=64:=Nat.min_le_right _ _;rw[jK,hlen];omega);rw[Pj _ _ hlen hk]at B2;have o:=o1.trans o2
 refine⟨w1,e1,o1,w2,e2,⟨h.hb.only o (by simp;exact h.bN),B2,h.hO.only o (by simp;exact λe=>h.ne e.symm),h.hL.only o (by simp;exact h.LN),h.ne,?_⟩,o⟩;have:=kk s.data.toList;exact⟨by show(gv d.now k _).length=_;unfold gv;rw[iO (by omega)];exact hlen,h.ok.bX,h.ok.loose,h.ok.small,h.ok.bt,h.ok.calls⟩
theorem Sx{w':World}{d:D}(h:aZ w L n d)(o:ag [L.gN] w w'):w'.cell? ⟨L.b,0,none⟩=some (.slice (some ⟨L.gN,0,none⟩) n n):=
 (o.cell h.hb.lt (by simp;exact h.bN)).trans h.f0
theorem Pm{d:D}(h:aZ w L n d)(k:Nat)(hk:k<n)(s:ByteArray)(ha:d.jM n k=0)(hc:d.calls<=4000000000000000000)(hr:d.bt<=9223372036854775807)(hl:d.loose.getD k false=false):
  Calls prog 103 #[dp L.b,.int .i64 k,.string s] w λe w'=>e=.returned (.int .i64 ((d.dM k s.data.toList).cN).2)/\aZ w' L n ((d.dM k s.data.toList).cN).1/\ag L.fp w w':=by
 have K:=xh (pR h k);have hn:=h.ok.small;rw[ha]at K;have f0:=h.f0;have f1:=h.f1;have f2:=h.f2;have cl:w.cell? ⟨L.gL,k,none⟩=some (.bool false):=by
  rw[<-hl];refine h.hL.ab ?_;rw[dj,Cp _ _ (by rw[h.ok.loose];exact hk)]
 have yU:d.iz k={d with bX:=gv d.bX k (sec d.now k),loose:=d.loose.set k true}:=by unfold D.iz;rw[hl];rfl
 have sD:d.dM k s.data.toList={d.iz k with now:=gv (d.iz k).now k (ki s.data.toList)}:=by unfold D.dM;rw[D.Su]
 have DC:(d.iz k).calls=d.calls:=by rw[yU]
 have DA:(d.iz k).bt=d.bt:=by rw[yU]
 have fu:=h.ok.pD k hk;rw[sD];have hld:Nl w.drew (.pointer (some ⟨L.gN,k*64,none⟩))= .ok (.agg (dI (sec d.now k)).toArray) w.drew:=Sv h.hN.drew (k*64) _ (by rw[jK,my h.ok.now hk]) Cq;obtain⟨w2,uV,B2,o2⟩:=GA h.hO.drew (k*64) (dI (sec d.now k)) (by rw[jK,my h.ok.now hk]) (by have:=h.ok.bX;simp;omega) (tV _);have cl2:w2.cell? ⟨L.gL,k,none⟩=some (.bool false):=(o2.cell (dX cl) (by simp;exact h.LO)).trans cl
 have fl2:w2.frozen? ⟨L.gL,k,none⟩=false:=(o2.frozen (dX cl) (by simp;exact h.LO)).trans (h.hL.frozen k (by simp;rw[h.ok.loose];exact hk));have o2':ag L.fp w w2:=⟨o2.os,o2.tape,o2.output,o2.size,λb hb hn=>o2.block b hb (by simp[Loc.fp]at hn ⊢;exact hn.2.2.1)⟩;have hD:aZ (w2.setCell ⟨L.gL,k,none⟩ (.bool true)) L n (d.iz k):=by
  rw[yU]at fu ⊢;have B3:=((h.hL.drew.only o2 (by simp;exact h.LO)).bE k (.bool true));rw[tN,Ph]at B3;rw[ua]at B2;refine⟨(h.hb.drew.only o2 (by simp;exact h.bO)).aW (by exact h.bL) _,(h.hN.drew.only o2 (by simp;exact h.ne)).aW (by exact λe=>h.LN e.symm) _,?_,B3,h.ne,fu⟩;have:=B2.aW (p:=⟨L.gL,k,none⟩) (λe=>h.LO e.symm) (.bool true)
  rwa [show k*64=64*k from tR _ _]at this
 have oD:ag L.fp w (w2.setCell ⟨L.gL,k,none⟩ (.bool true)):=o2'.setCell (by simp[Loc.fp]) _;clear yU sD fu ha B2 o2 o2' h;generalize d.iz k=d1 at *;unfold dp at *;go_enter func103,ntmps103;go_wp2_with fail;refine K.o.mono ?_;rintro e w1 ⟨rfl,rfl⟩;go_wp2_with fail
 go_region
 clear hld uV f0 f1 f2 cl cl2 fl2;generalize w2.setCell ⟨L.gL,k,none⟩ (.bool true)=w3 at *;have f0':=hD.f0;obtain⟨w4,st4,o4,w5,cp5,D5,o5⟩:=Nq hD k hk s;have f04:=Sx hD o4;have CP:=xh cp5;have KC:=xh (sC D5 (by rw[DC];exact hc) (by rw[DA];exact hr));have HD:=xh D5;have O5:=xh (oD.trans (o5.mono (S':=L.fp) (by simp[Loc.fp])));clear hD oD cp5 D5 o4 o5 DC DA;unfold dp at KC;go_wp2_with fail;rw[CP.o];go_wp2_with fail;refine KC.o.mono ?_
 rintro e w6 ⟨rfl,D6,o6⟩;go_wp2_with fail;go_ret;exact⟨rfl,D6,O5.o.trans (o6.mono (by simp[Loc.fp]))⟩
theorem Pn{d:D}(h:aZ w L n d)(k:Nat)(hk:k<n)(s:ByteArray)(ha:d.jM n k=0)(hc:d.calls<=4000000000000000000)(hr:d.bt<=9223372036854775807)(hl:d.loose.getD k false=true):
  Calls prog 103 #[dp L.b,.int .i64 k,.string s] w λe w'=>e=.returned (.int .i64 ((d.dM k s.data.toList).cN).2)/\aZ w' L n ((d.dM k s.data.toList).cN).1/\ag L.fp w w':=by
 have K:=xh (pR h k);have hn:=h.ok.small;rw[ha]at K;have f0:=h.f0;have f1:=h.f1;have f2:=h.f2;have cl:w.cell? ⟨L.gL,k,none⟩=some (.bool true):=by
  rw[<-hl];refine h.hL.ab ?_;rw[dj,Cp _ _ (by rw[h.ok.loose];exact hk)]
 have yU:d.iz k=d:=by unfold D.iz;rw[hl];rfl
 have sD:d.dM k s.data.toList={d with now:=gv d.now k (ki s.data.toList)}:=by unfold D.dM;rw[yU]
 rw[sD];have hD:=h;have oD:ag L.fp w w:=ag.refl _ _;have DC:d.calls=d.calls:=rfl;have DA:d.bt=d.bt:=rfl;have HDC:=xh DC;clear yU sD ha h DC DA;unfold dp at *;have f0':=hD.f0;obtain⟨w4,st4,o4,w5,cp5,D5,o5⟩:=Nq hD k hk s;have f04:=Sx hD o4;have CP:=xh cp5;have KC:=xh (sC D5 hc hr);have HD:=xh D5;have O5:=xh (oD.trans (o5.mono (S':=L.fp) (by simp[Loc.fp])));clear hD oD cp5 D5 o4 o5;unfold dp at KC;go_enter func103,ntmps103
 go_wp2_with fail;refine K.o.mono ?_;rintro e w1 ⟨rfl,rfl⟩;go_wp2_with fail;rw[CP.o];go_wp2_with fail;refine KC.o.mono ?_;rintro e w6 ⟨rfl,D6,o6⟩;go_wp2_with fail;go_ret;exact⟨rfl,D6,O5.o.trans (o6.mono (by simp[Loc.fp]))⟩
end Dk
namespace Dk
open Go.RowKit
variable{w:World}{L:Loc}{n:Nat}{d:D}
theorem kI(h:aZ w L n d)(i:Int)(s:ByteArray)(hc:d.calls<=4000000000000000000)(hr:d.bt<=9223372036854775807):
  Calls prog 103 #[dp L.b,.int .i64 i,.string s] w λe w'=>e=.returned (.int .i64 (d.aD n i s.data.toList).2)/\aZ w' L n (d.aD n i s.data.toList).1/\ag L.fp w w':=by
 rcases Cr d n i with ha|ha
 .have hi:=Sw ha;obtain⟨k,rfl⟩:=eT hi.1;have e1:d.aD n k s.data.toList=(d.dM k s.data.toList).cN:=by unfold D.aD;rw[if_pos ha];rfl
  rw[e1]
  cases hl:d.loose.getD k false
  .exact Pm h k (by omega) s ha hc hr hl
  .exact Pn h k (by omega) s ha hc hr hl
 .have e1:d.aD n i s.data.toList=(d,d.jM n i):=by unfold D.aD;rw[if_neg (by simpa using ha)]
  rw[e1];have K:=xh (pR h i);have H:=xh h;generalize d.jM n i=x at *;clear e1 h;unfold dp at *;go_enter func103,ntmps103;go_wp2_with fail;refine K.o.mono ?_;rintro e w1 ⟨rfl,rfl⟩;go_wp2_with fail;go_ret;exact⟨rfl,H.o,ag.refl _ _⟩
theorem Bz(z:Value)(n:Nat):(Builtin.zeroCells #[z] n).toList=List.replicate n z:=by
 unfold Builtin.zeroCells;apply vg
 .simp
 .intro i h1 h2;simp[Nat.mod_one]
theorem Po(l c:List Value)(h:l.length=c.length):putAt l 0 c=c:=by
 simp[putAt,h]
theorem Pp{P:Program}{g:Nat}{t T e:TypeId}{l:List Value}(B:aJ w g t l.toArray)(ht:P.underlying T=some (.slice e)){z:Value}(hz:∀w,(zeroValue e).run P w=.ok z w)(h1:z.cells= #[z])(ju:z.oneCell'=true)(ty:TypeId)(n c:Nat)(hn:l.length=n):
  ∃w',(Builtin.clear_ #[T] ty #[.slice (some ⟨g,0,none⟩) n c]).run P w=.ok (.tuple #[]) w'/\aJ w' g t (List.replicate n z).toArray/\ag [g] w w':=by
 rcases yn n with h0|h0
 .subst h0;have:l=[]:=lK hn;subst this;exact⟨w,by simp[Builtin.clear_,run_underlying ht],B,ag.refl _ _⟩
 .have uV:=run_storeCells_cells (P:=P) g 0 (List.replicate n z) 0 w (λj hj=>by rw[B.cell];simp at hj ⊢;omega) (λj hj=>B.frozen _ (by simp at hj ⊢;omega)) (by intro v hv;rw[(List.mem_replicate.1 hv).2];exact ju);refine⟨w.setCells g 0 (List.replicate n z),?_,?_,(ag.refl _ _).setCells _ 0 (by simp)⟩
  .obtain⟨m,rfl⟩:∃m,n=m+1:=⟨n-1,by omega⟩;simp only[iw]at uV;simp[Builtin.clear_,run_underlying ht,hz,h1,Bz,uV,Result.andThen]
  .have:=B.setCells (List.replicate n z) 0 (by simp;omega)
   rwa [Po _ _ (by simp;omega)]at this
theorem yV(h:aZ w L n d)(hc:d.calls<=4000000000000000000)(hr:d.bt<=9223372036854775807):
  Calls prog 104 #[dp L.b] w λe w'=>e=.returned (.int .i64 d.et.2)/\aZ w' L n d.et.1/\ag L.fp w w':=by
 have K:=xh (jg h);have KC:=xh (sC h hc hr);have Jr:=xh h.ok.sync;unfold D.fJ at K
 cases hd:d.down
 .rw[hd]at K;simp only[pw,if_false]at K
  by_cases h0:d.cN.2=0
  .have e1:d.et=({d.cN.1 with loose:=List.replicate d.loose.length false},0):=by
    unfold D.et;rw[hd,if_neg (by simp),if_pos h0]
   have tA:=h.ok.loose;rw[tA]at e1;rw[e1];rw[e1]at Jr;rw[h0]at KC;have Js:d.cN.1.loose.length=n:=by
    have:=h.ok.count.loose;exact this
   clear e1 h0 hd h tA;generalize d.cN.1=d1 at *;unfold dp at *;go_enter func104,ntmps104;go_wp2_with fail;refine K.o.mono ?_;rintro e w1 ⟨rfl,rfl⟩;go_wp2_with fail;refine KC.o.mono ?_;rintro e w2 ⟨rfl,D2,o2⟩;have f2:=D2.f2;obtain⟨w3,ec,B3,o3⟩:=Pp (P:=prog) D2.hL underlying65 (z:= .bool false) (λ_=>by kernel_rfl) rfl rfl 0 n n (by simpa using Js);have EC:=xh ec;clear ec Js;go_wp2_with fail;rw[EC.o];go_wp2_with fail;go_ret
   refine⟨rfl,⟨D2.hb.only o3 (by simp;exact D2.bL),D2.hN.only o3 (by simp;exact λe=>D2.LN e.symm),D2.hO.only o3 (by simp;exact λe=>D2.LO e.symm),?_,D2.ne,Jr.o⟩,(o2.mono (by simp[Loc.fp])).trans (o3.mono (by simp[Loc.fp]))⟩;simpa [px]using B3
  .have e1:d.et=d.cN:=by
    unfold D.et;rw[hd,if_neg (by simp),if_neg h0]
   rw[e1];have ff:(d.cN.2==0)=false:=by simpa using h0
   generalize d.cN=dd at *;clear e1 h0 hd h;obtain⟨d1,x⟩:=dd;simp only at ff KC;unfold dp at *;go_enter func104,ntmps104;go_wp2_with fail;refine K.o.mono ?_;rintro e w1 ⟨rfl,rfl⟩;go_wp2_with fail;refine KC.o.mono ?_;rintro e w2 ⟨rfl,D2,o2⟩;go_wp2_with fail;go_ret;exact⟨rfl,D2,o2.mono (by simp[Loc.fp])⟩
 .rw[hd]at K;simp only[if_true]at K;have e1:d.et=(d,13):=by unfold D.et;rw[hd,if_pos rfl]
  rw[e1];have H:=xh h;clear e1 hd h;unfold dp at *;go_enter func104,ntmps104;go_wp2_with fail;refine K.o.mono ?_;rintro e w1 ⟨rfl,rfl⟩;go_wp2_with fail;go_ret;exact⟨rfl,H.o,ag.refl _ _⟩
theorem GB(h:aZ w L n d):
  Calls prog 182 #[dp L.b] w λe w'=>e=.returned (.int .i64 n)/\w=w':=by
 have f0:=h.f0;unfold dp;go_enter func182,ntmps182
 go_wp2
 go_ret;exact⟨rfl,rfl⟩
attribute [local go_sem ↓] Es Et vv
def D.zero(n:Nat):D:={now:=List.replicate (64*n) 0,bX:=List.replicate (64*n) 0,loose:=List.replicate n false,bt:=0,calls:=0,down:=false}
theorem J0:(prog.info? 152).map (λi=>(i.zero,i.size,i.bytes))=some (some pQ,64,64):=by kernel_rfl
theorem Pq:(prog.info? 4).map (λi=>(i.zero,i.size,i.bytes))=some (some (.bool false),1,1):=by kernel_rfl
theorem ya(n:Nat):madeCells pQ.cells (n*64)=(dI (List.replicate (64*n) 0)).toArray:=by
 have h0:pQ.cells=(List.replicate 64 (Value.int .u8 0)).toArray:=by
  show(dI (List.replicate 64 0)).toArray=_;rw[dI,List.map_replicate];rfl
 have hz:∀k,k<64->pQ.cells[k]! = .int .u8 0:=by
  intro k h;rw[h0,getElem!_pos _ k (by rw[lS,ez];exact h),List.getElem_toArray,List.getElem_replicate]
 have hs:pQ.cells.size=64:=by rw[h0,lS,ez]
 apply Array.ext
 .simp[size_madeCells];omega
 .intro i h1 h2;simp only[madeCells,hs];rw[Array.getElem_map,Array.getElem_range,hz _ (qQ _ (by decide))];simp[dI,bv]
def fC(n:Nat):Obj:= .cells (dI (List.replicate (64*n) 0)).toArray 152
def lM(n:Nat):Obj:= .cells (px (List.replicate n false)).toArray 4
theorem Pr(n:Nat)(hn:n<=4096)(w:World):
  (Instr.makeSlice 147 (.int .i64 n) (.int .i64 n)).run prog w=.ok (.slice (some ⟨w.heap.size,0,none⟩) n n) (w.alloc (fC n)):=by
 obtain⟨i0,hi,kx,ju,kg⟩:=info_parts J0;have h:=run_make (P:=prog) w 147 152 i0 pQ underlying147 hi kx .i64 .i64 n n (by omega) (jI _) (by rw[kg];omega) (by omega);rw[h,ju];simp only[gG,ya];rfl
theorem J1(n:Nat)(hn:n<=4096)(w:World):
  (Instr.makeSlice 65 (.int .i64 n) (.int .i64 n)).run prog w=.ok (.slice (some ⟨w.heap.size,0,none⟩) n n) (w.alloc (lM n)):=by
 obtain⟨i0,hi,kx,ju,kg⟩:=info_parts Pq;have h:=run_make (P:=prog) w 65 4 i0 (.bool false) underlying65 hi kx .i64 .i64 n n (by omega) (jI _) (by rw[kg];omega) (by omega);rw[h,ju];have e:madeCells (Value.bool false).cells (((n:Int).toNat)*1)=(px (List.replicate n false)).toArray:=by
  show madeCells #[Value.bool false] (n*1)=_;rw[Nat.mul_one,ie];simp[px]
 rw[e];rfl
theorem four(w:World)(a b c d:Obj):((((w.alloc a).alloc b).alloc c).alloc d).heap[w.heap.size]?=some a/\((((w.alloc a).alloc b).alloc c).alloc d).heap[w.heap.size+1]?=some b/\((((w.alloc a).alloc b).alloc c).alloc d).heap[w.heap.size+1+1]?=some c/\((((w.alloc a).alloc b).alloc c).alloc d).heap[w.heap.size+1+1+1]?=some d:=by
 have s1:(w.alloc a).heap.size=w.heap.size+1:=by simp
 have s2:((w.alloc a).alloc b).heap.size=w.heap.size+1+1:=by simp
 have s3:(((w.alloc a).alloc b).alloc c).heap.size=w.heap.size+1+1+1:=by simp
 have e2:=heap_alloc_new (w.alloc a) b;have e3:=heap_alloc_new ((w.alloc a).alloc b) c;have e4:=heap_alloc_new (((w.alloc a).alloc b).alloc c) d;rw[s1]at e2;rw[s2]at e3;rw[s3]at e4;exact⟨(Below.heap_alloc _ d _ (by omega)).trans ((Below.heap_alloc _ c _ (by omega)).trans ((Below.heap_alloc _ b _ (by omega)).trans (heap_alloc_new w a))),(Below.heap_alloc _ d _ (by omega)).trans ((Below.heap_alloc _ c _ (by omega)).trans e2),(Below.heap_alloc _ d _ (by omega)).trans e3,e4⟩
theorem vx(w:World)(a b c d:Obj):Below w.heap.size w ((((w.alloc a).alloc b).alloc c).alloc d).drew:=
 (((((Below.refl _ _).alloc (ak _) _).alloc (by simp) _).alloc (by simp;omega) _).alloc (by simp;omega) _).drew
theorem oM(n:Nat)(hn:n<=4096):(D.zero n).Ok n:=⟨by simp[D.zero],by simp[D.zero],by simp[D.zero],hn,jI 0,jI 0⟩
theorem Eu(n:Nat)(w:World)(h1:1<=n)(hn:n<=4096):
  Calls prog 52 #[.int .i64 n] w λe w'=> ∃L,e=.returned (.tuple #[dp L.b,.int .i64 0])/\aZ w' L n (D.zero n)/\Below w.heap.size w w'/\(∀x∈L.fp,w.heap.size<=x):=by
 have m1:=Pr n hn;have m2:=J1 n hn;go_enter func52,ntmps52
 go_wp2
 go_region
 all_goals go_wp2
 all_goals go_ret2
 all_goals first|exact⟨⟨w.heap.size+1+1+1,w.heap.size,w.heap.size+1,w.heap.size+1+1⟩,rfl,⟨.of_eq (four w (fC n) (fC n) (lM n) (.cells (fields ⟨w.heap.size+1+1+1,w.heap.size,w.heap.size+1,w.heap.size+1+1⟩ n (D.zero n)) 149)).2.2.2,.of_eq (four w (fC n) (fC n) (lM n) (.cells (fields ⟨w.heap.size+1+1+1,w.heap.size,w.heap.size+1,w.heap.size+1+1⟩ n (D.zero n)) 149)).1,.of_eq (four w (fC n) (fC n) (lM n) (.cells (fields ⟨w.heap.size+1+1+1,w.heap.size,w.heap.size+1,w.heap.size+1+1⟩ n (D.zero n)) 149)).2.1,.of_eq (four w (fC n) (fC n) (lM n) (.cells (fields ⟨w.heap.size+1+1+1,w.heap.size,w.heap.size+1,w.heap.size+1+1⟩ n (D.zero n)) 149)).2.2.1,by dsimp only;omega,oM n hn⟩,vx w _ _ _ _,by simp[Loc.fp];omega⟩|exact⟨⟨w.heap.size+1+1+1,w.heap.size,w.heap.size+1+1,w.heap.size+1⟩,rfl,⟨.of_eq (four w (fC n) (lM n) (fC n) (.cells (fields ⟨w.heap.size+1+1+1,w.heap.size,w.heap.size+1+1,w.heap.size+1⟩ n (D.zero n)) 149)).2.2.2,.of_eq (four w (fC n) (lM n) (fC n) (.cells (fields ⟨w.heap.size+1+1+1,w.heap.size,w.heap.size+1+1,w.heap.size+1⟩ n (D.zero n)) 149)).1,.of_eq (four w (fC n) (lM n) (fC n) (.cells (fields ⟨w.heap.size+1+1+1,w.heap.size,w.heap.size+1+1,w.heap.size+1⟩ n (D.zero n)) 149)).2.2.1,.of_eq (four w (fC n) (lM n) (fC n) (.cells (fields ⟨w.heap.size+1+1+1,w.heap.size,w.heap.size+1+1,w.heap.size+1⟩ n (D.zero n)) 149)).2.1,by dsimp only;omega,oM n hn⟩,vx w _ _ _ _,by simp[Loc.fp];omega⟩|exact⟨⟨w.heap.size+1+1+1,w.heap.size+1,w.heap.size,w.heap.size+1+1⟩,rfl,⟨.of_eq (four w (fC n) (fC n) (lM n) (.cells (fields ⟨w.heap.size+1+1+1,w.heap.size+1,w.heap.size,w.heap.size+1+1⟩ n (D.zero n)) 149)).2.2.2,.of_eq (four w (fC n) (fC n) (lM n) (.cells (fields ⟨w.heap.size+1+1+1,w.heap.size+1,w.heap.size,w.heap.size+1+1⟩ n (D.zero n)) 149)).2.1,.of_eq (four w (fC n) (fC n) (lM n) (.cells (fields ⟨w.heap.size+1+1+1,w.heap.size+1,w.heap.size,w.heap.size+1+1⟩ n (D.zero n)) 149)).1,.of_eq (four w (fC n) (fC n) (lM n) (.cells (fields ⟨w.heap.size+1+1+1,w.heap.size+1,w.heap.size,w.heap.size+1+1⟩ n (D.zero n)) 149)).2.2.1,by dsimp only;omega,oM n hn⟩,vx w _ _ _ _,by simp[Loc.fp];omega⟩|exact⟨⟨w.heap.size+1+1+1,w.heap.size+1,w.heap.size+1+1,w.heap.size⟩,rfl,⟨.of_eq (four w (lM n) (fC n) (fC n) (.cells (fields ⟨w.heap.size+1+1+1,w.heap.size+1,w.heap.size+1+1,w.heap.size⟩ n (D.zero n)) 149)).2.2.2,.of_eq (four w (lM n) (fC n) (fC n) (.cells (fields ⟨w.heap.size+1+1+1,w.heap.size+1,w.heap.size+1+1,w.heap.size⟩ n (D.zero n)) 149)).2.1,.of_eq (four w (lM n) (fC n) (fC n) (.cells (fields ⟨w.heap.size+1+1+1,w.heap.size+1,w.heap.size+1+1,w.heap.size⟩ n (D.zero n)) 149)).2.2.1,.of_eq (four w (lM n) (fC n) (fC n) (.cells (fields ⟨w.heap.size+1+1+1,w.heap.size+1,w.heap.size+1+1,w.heap.size⟩ n (D.zero n)) 149)).1,by dsimp only;omega,oM n hn⟩,vx w _ _ _ _,by simp[Loc.fp];omega⟩|exact⟨⟨w.heap.size+1+1+1,w.heap.size+1+1,w.heap.size,w.heap.size+1⟩,rfl,⟨.of_eq (four w (fC n) (lM n) (fC n) (.cells (fields ⟨w.heap.size+1+1+1,w.heap.size+1+1,w.heap.size,w.heap.size+1⟩ n (D.zero n)) 149)).2.2.2,.of_eq (four w (fC n) (lM n) (fC n) (.cells (fields ⟨w.heap.size+1+1+1,w.heap.size+1+1,w.heap.size,w.heap.size+1⟩ n (D.zero n)) 149)).2.2.1,.of_eq (four w (fC n) (lM n) (fC n) (.cells (fields ⟨w.heap.size+1+1+1,w.heap.size+1+1,w.heap.size,w.heap.size+1⟩ n (D.zero n)) 149)).1,.of_eq (four w (fC n) (lM n) (fC n) (.cells (fields ⟨w.heap.size+1+1+1,w.heap.size+1+1,w.heap.size,w.heap.size+1⟩ n (D.zero n)) 149)).2.1,by dsimp only;omega,oM n hn⟩,vx w _ _ _ _,by simp[Loc.fp];omega⟩|exact⟨⟨w.heap.size+1+1+1,w.heap.size+1+1,w.heap.size+1,w.heap.size⟩,rfl,⟨.of_eq (four w (lM n) (fC n) (fC n) (.cells (fields ⟨w.heap.size+1+1+1,w.heap.size+1+1,w.heap.size+1,w.heap.size⟩ n (D.zero n)) 149)).2.2.2,.of_eq (four w (lM n) (fC n) (fC n) (.cells (fields ⟨w.heap.size+1+1+1,w.heap.size+1+1,w.heap.size+1,w.heap.size⟩ n (D.zero n)) 149)).2.2.1,.of_eq (four w (lM n) (fC n) (fC n) (.cells (fields ⟨w.heap.size+1+1+1,w.heap.size+1+1,w.heap.size+1,w.heap.size⟩ n (D.zero n)) 149)).2.1,.of_eq (four w (lM n) (fC n) (fC n) (.cells (fields ⟨w.heap.size+1+1+1,w.heap.size+1+1,w.heap.size+1,w.heap.size⟩ n (D.zero n)) 149)).1,by dsimp only;omega,oM n hn⟩,vx w _ _ _ _,by simp[Loc.fp];omega⟩
end Dk
namespace Pg
open Go.RowKit Pk Dk
attribute [local go_sem ↓] Go.wp_at_zero Go.wp_at_succ
variable{w:World}
def cB(n:Nat):Nat:=(n-2) / 4
theorem nI{L:Dk.Loc}{n:Nat}{d:D}(h:aZ w L n d):
  Calls prog 136 #[dp L.b] w λe w'=>e=.returned (.int .i64 (cB n:Nat))/\w=w':=by
 have K:=xh (GB h);have hn:=h.ok.small;clear h;unfold dp at *;have e1:IntKind.i64.wrap ((n:Int)-2)=(n:Int)-2:=IntWalk.i64_in _ (by omega)
 by_cases h2:2<=n
 .obtain⟨m,rfl⟩:∃m,n=m+2:=⟨n-2,by omega⟩;have e2:IntKind.i64.wrap ((((m+2:Nat):Int)-2).tdiv 4)=((cB (m+2):Nat):Int):=by
   have:(((m+2:Nat):Int)-2)=(m:Int):=by omega
   rw[this,Jz (by omega),IntWalk.i64_in _ (by omega)];unfold cB;omega
  have h3:¬((m+2:Nat):Int)-2<0:=by omega
  have HM:=xh (show((cB (m+2):Nat):Int)=(m:Int) / 4 from by unfold cB;omega);go_enter func136,ntmps136;go_wp2_with fail;refine K.o.mono ?_;rintro e w1 ⟨rfl,rfl⟩;go_wp2_with fail
  all_goals
   go_ret;refine⟨?_,rfl⟩;rw[HM.o]
   first|(simp;done)|(simp;omega)
 .have h3:(n:Int)-2<0:=by omega
  have HM:=xh (show((cB n:Nat):Int)=0 from by unfold cB;omega);go_enter func136,ntmps136;go_wp2_with fail;refine K.o.mono ?_;rintro e w1 ⟨rfl,rfl⟩;go_wp2_with fail;go_ret;refine⟨?_,rfl⟩;rw[HM.o]
  first|(simp;done)|(simp;omega)
def pS(k:Nat):List Value:=[.int .i64 (k:Nat),.int .i64 ((k:Int)+1),.int .i64 ((k:Int)+2),.int .i64 ((k:Int)+3)]
def nj(k i:Nat):List Value:=(pS k).take i++List.replicate (4-i) (.int .i64 0)
theorem dJ{fn:Func}{p:Tmp}{ty:TypeId}(h:fn.results= #[.cell p ty])(tmps:Array Value)(P:Program)(w:World):
  (results fn tmps).run P w=((asAddr (tmps.getD p undef)).run P w).andThen λa w₁=>(loadVar ty a).run P w₁:=by
 simp only[results,h];simp[Sem.run_bind,Result.andThen]
theorem Sy{fn:Func}{p:Tmp}{g:Nat}{a b c d:Int}{tmps:Array Value}(h:fn.results= #[.cell p 244])(hp:tmps.getD p undef=.pointer (some ⟨g,0,none⟩))(B:aJ w g 244 #[.int .i64 a,.int .i64 b,.int .i64 c,.int .i64 d]):
  (results fn tmps).run prog w=.ok (.agg #[.int .i64 a,.int .i64 b,.int .i64 c,.int .i64 d]) w:=by
 have c0:=B.ab (i:=0) rfl;have c1:=B.ab (i:=1) rfl;have c2:=B.ab (i:=2) rfl;have c3:=B.ab (i:=3) rfl;rw[dJ h,hp];clear h hp B;go_simp
theorem oN(id:Nat)(h:id<=1023):
  Calls prog 184 #[.int .i64 (id:Nat)] w λe w'=>e=.returned (.agg (pS (2+4*id)).toArray)/\Below w.heap.size w w':=by
 have e1:IntKind.i64.wrap ((id:Int)*4)=(id:Int)*4:=IntWalk.i64_in _ (by omega);have e2:IntKind.i64.wrap (2+(id:Int)*4)=2+(id:Int)*4:=IntWalk.i64_in _ (by omega);have Z:∀i:Nat,i<=3->IntKind.i64.wrap (2+(id:Int)*4+(i:Int))=2+(id:Int)*4+(i:Int):=λi hi=>IntWalk.i64_in _ (by omega);have y0:=Z 0 (by omega);have y1:=Z 1 (by omega);have y2:=Z 2 (by omega);have y3:=Z 3 (by omega);clear Z;have q0:Value.int .i64 (2+(id:Int)*4)= .int .i64 ((2+4*id:Nat):Int):=by congr 1;omega
 have q1:Value.int .i64 (2+(id:Int)*4+1)= .int .i64 (((2+4*id:Nat):Int)+1):=by congr 1;omega
 have q2:Value.int .i64 (2+(id:Int)*4+2)= .int .i64 (((2+4*id:Nat):Int)+2):=by congr 1;omega
 have q3:Value.int .i64 (2+(id:Int)*4+3)= .int .i64 (((2+4*id:Nat):Int)+3):=by congr 1;omega
 have Q:=xh (And.intro q0 (And.intro q1 (And.intro q2 q3)));clear q0 q1 q2 q3;have B0:=xh ((aJ.new w 244 #[.int .i64 0,.int .i64 0,.int .i64 0,.int .i64 0]).alloc (.cells #[.int .i64 0,.int .i64 0,.int .i64 0,.int .i64 0] 244));have C0:=aJ.new (w.alloc (.cells #[.int .i64 0,.int .i64 0,.int .i64 0,.int .i64 0] 244)) 244 #[.int .i64 0,.int .i64 0,.int .i64 0,.int .i64 0]
 rw[show(w.alloc (.cells #[.int .i64 0,.int .i64 0,.int .i64 0,.int .i64 0] 244)).heap.size=w.heap.size+1 from by simp]at C0;have C0:=xh C0;have O0:=xh (ae (ae (Below.refl w.heap.size w) (.cells #[.int .i64 0,.int .i64 0,.int .i64 0,.int .i64 0] 244)) (.cells #[.int .i64 0,.int .i64 0,.int .i64 0,.int .i64 0] 244));go_enter func184,ntmps184;go_wp2_with fail
 go_loopw [5] (λiv wr=> ∃i:Nat,i<=4/\iv=.int .i64 i/\Hid (aJ wr (w.heap.size+1) 244 (nj (2+4*id) i).toArray)/\Hid (aJ wr w.heap.size 244 #[.int .i64 0,.int .i64 0,.int .i64 0,.int .i64 0])/\Hid (Below w.heap.size w wr)) (λiv _=>4-(intOf iv).toNat)
 case atStart=>exact⟨0,by omega,rfl,C0,B0,O0⟩
 case round=>
  obtain⟨i,hi,rfl,C,B,O⟩:=hrel;have ii:i=0\/i=1\/i=2\/i=3\/i=4:=by omega
  have z0:=C.o.frozen 0 (by rcases ii with rfl|rfl|rfl|rfl|rfl<;>simp[nj,pS]);have z1:=C.o.frozen 1 (by rcases ii with rfl|rfl|rfl|rfl|rfl<;>simp[nj,pS]);have z2:=C.o.frozen 2 (by rcases ii with rfl|rfl|rfl|rfl|rfl<;>simp[nj,pS]);have z3:=C.o.frozen 3 (by rcases ii with rfl|rfl|rfl|rfl|rfl<;>simp[nj,pS])
  rcases ii with rfl|rfl|rfl|rfl|rfl
  .have c0:=C.o.ab (i:=0) (v:= .int .i64 0) rfl;have C2:=xh (show aJ (wr.setCell ⟨w.heap.size+1,0,none⟩ (.int .i64 (2+(id:Int)*4))) (w.heap.size+1) 244 (nj (2+4*id) 1).toArray from by
    have h:=C.o.bE 0 (.int .i64 (2+(id:Int)*4));rw[Q.o.1]at h ⊢;exact h)
   have B2:=xh (B.o.aW (p:=⟨w.heap.size+1,0,none⟩) (by simp) (.int .i64 (2+(id:Int)*4)));have O2:=xh (O.o.setCell (p:=⟨w.heap.size+1,0,none⟩) (by simp) (.int .i64 (2+(id:Int)*4)));go_wp2_with fail;go_roundw
   case rel=>exact⟨1,by omega,by first|rfl|simp,C2,B2,O2⟩
   case measure=>first|decide|simp[intOf]
  .have c0:=C.o.ab (i:=1) (v:= .int .i64 0) rfl;have C2:=xh (show aJ (wr.setCell ⟨w.heap.size+1,1,none⟩ (.int .i64 (2+(id:Int)*4+1))) (w.heap.size+1) 244 (nj (2+4*id) 2).toArray from by
    have h:=C.o.bE 1 (.int .i64 (2+(id:Int)*4+1));rw[Q.o.2.1]at h ⊢;exact h)
   have B2:=xh (B.o.aW (p:=⟨w.heap.size+1,1,none⟩) (by simp) (.int .i64 (2+(id:Int)*4+1)));have O2:=xh (O.o.setCell (p:=⟨w.heap.size+1,1,none⟩) (by simp) (.int .i64 (2+(id:Int)*4+1)));go_wp2_with fail;go_roundw
   case rel=>exact⟨2,by omega,by first|rfl|simp,C2,B2,O2⟩
   case measure=>first|decide|simp[intOf]
  .have c0:=C.o.ab (i:=2) (v:= .int .i64 0) rfl;have C2:=xh (show aJ (wr.setCell ⟨w.heap.size+1,2,none⟩ (.int .i64 (2+(id:Int)*4+2))) (w.heap.size+1) 244 (nj (2+4*id) 3).toArray from by
    have h:=C.o.bE 2 (.int .i64 (2+(id:Int)*4+2));rw[Q.o.2.2.1]at h ⊢;exact h)
   have B2:=xh (B.o.aW (p:=⟨w.heap.size+1,2,none⟩) (by simp) (.int .i64 (2+(id:Int)*4+2)));have O2:=xh (O.o.setCell (p:=⟨w.heap.size+1,2,none⟩) (by simp) (.int .i64 (2+(id:Int)*4+2)));go_wp2_with fail;go_roundw
   case rel=>exact⟨3,by omega,by first|rfl|simp,C2,B2,O2⟩
   case measure=>first|decide|simp[intOf]
  .have c0:=C.o.ab (i:=3) (v:= .int .i64 0) rfl;have C2:=xh (show aJ (wr.setCell ⟨w.heap.size+1,3,none⟩ (.int .i64 (2+(id:Int)*4+3))) (w.heap.size+1) 244 (nj (2+4*id) 4).toArray from by
    have h:=C.o.bE 3 (.int .i64 (2+(id:Int)*4+3));rw[Q.o.2.2.2]at h ⊢;exact h)
   have B2:=xh (B.o.aW (p:=⟨w.heap.size+1,3,none⟩) (by simp) (.int .i64 (2+(id:Int)*4+3)));have O2:=xh (O.o.setCell (p:=⟨w.heap.size+1,3,none⟩) (by simp) (.int .i64 (2+(id:Int)*4+3)));go_wp2_with fail;go_roundw
   case rel=>exact⟨4,by omega,by first|rfl|simp,C2,B2,O2⟩
   case measure=>first|decide|simp[intOf]
  .have c0:=C.o.ab (i:=0) rfl;have c1:=C.o.ab (i:=1) rfl;have c2:=C.o.ab (i:=2) rfl;have c3:=C.o.ab (i:=3) rfl;have b0:=B.o.ab (i:=0) rfl;have b1:=B.o.ab (i:=1) rfl;have b2:=B.o.ab (i:=2) rfl;have b3:=B.o.ab (i:=3) rfl;have x0:=B.o.frozen 0 (by simp);have x1:=B.o.frozen 1 (by simp);have x2:=B.o.frozen 2 (by simp);have x3:=B.o.frozen 3 (by simp)
   have ZB:=xh ((((B.o.bE 0 (.int .i64 ((2+4*id:Nat):Int))).bE 1 (.int .i64 (((2+4*id:Nat):Int)+1))).bE 2 (.int .i64 (((2+4*id:Nat):Int)+2))).bE 3 (.int .i64 (((2+4*id:Nat):Int)+3)))
   have ZO:=xh ((((O.o.setCell (p:=⟨w.heap.size,0,none⟩) (ak _) (.int .i64 ((2+4*id:Nat):Int))).setCell (p:=⟨w.heap.size,1,none⟩) (ak _) (.int .i64 (((2+4*id:Nat):Int)+1))).setCell (p:=⟨w.heap.size,2,none⟩) (ak _) (.int .i64 (((2+4*id:Nat):Int)+2))).setCell (p:=⟨w.heap.size,3,none⟩) (ak _) (.int .i64 (((2+4*id:Nat):Int)+3)))
   simp only[nj,pS,fy,Eh,iJ,cy,fI,iq,ak,List.getElem_cons_zero,JM,List.getElem_toArray]at c0 c1 c2 c3;generalize hKK:((2+4*id:Nat):Int)=K at *;have Br:=xh hKK;clear hKK;go_wp2_with fail;exact bodyPost_ret (Sy rfl rfl ZB.o) rfl ⟨by unfold pS;rw[Br.o],ZO.o⟩
variable{d:D}{n:Nat}
theorem vy(d:D)(h:d.bt<=9223372036854775807):d.cN.1.calls=d.calls+1/\d.cN.1.bt<=9223372036854775807:=by
 unfold D.cN
 split
 .exact⟨rfl,h⟩
 .split
  .exact⟨rfl,by show(0:Int)<=_;omega⟩
  .exact⟨rfl,by show d.bt-1<=_;omega⟩
theorem yW(d:D)(i:Nat):(d.iz i).calls=d.calls/\(d.iz i).bt=d.bt:=by unfold D.iz;split<;>exact⟨rfl,rfl⟩
theorem jh(d:D)(n:Nat)(i:Int)(s:List UInt8)(h:d.bt<=9223372036854775807):(d.aD n i s).1.calls<=d.calls+1/\(d.aD n i s).1.bt<=9223372036854775807:=by
 unfold D.aD
 split
 .have h1:(d.dM i.toNat s).calls=d.calls:=(yW d i.toNat).1;have h2:(d.dM i.toNat s).bt=d.bt:=(yW d i.toNat).2;have:=vy (d.dM i.toNat s) (by omega);omega
 .exact⟨by show d.calls<=_;omega,h⟩
def w4(d:D)(n k:Nat)(b:List UInt8):Nat->D×Int
 |0=>(d,0)
 |i+1=>if(w4 d n k b i).2=0 then(w4 d n k b i).1.aD n ((k:Int)+i) ((b.drop (64*i)).take 64)else w4 d n k b i
theorem Sz(d:D)(n k:Nat)(b:List UInt8)(i:Nat)(h:(w4 d n k b i).2=0):w4 d n k b (i+1)=(w4 d n k b i).1.aD n ((k:Int)+i) ((b.drop (64*i)).take 64):=by
 show(if _ then _ else _)=_;rw[if_pos h]
theorem Nr(d:D)(n k:Nat)(b:List UInt8)(i j:Nat)(h:(w4 d n k b i).2≠0)(hj:i<=j):w4 d n k b j=w4 d n k b i:=by
 induction j with
 |zero=>rw[show i=0 by omega]
 |succ j ih=>
  by_cases e:i=j+1
  .rw[e]
  .have:=ih (by omega);show(if _ then _ else _)=_;rw[this,if_neg h]
theorem SC(d:D)(n k:Nat)(b:List UInt8)(h:d.bt<=9223372036854775807):∀i,(w4 d n k b i).1.calls<=d.calls+i/\(w4 d n k b i).1.bt<=9223372036854775807
 |0=>⟨by simp[w4],h⟩
 |i+1=>by
  obtain⟨h1,h2⟩:=SC d n k b h i;unfold w4
  split
  .have:=jh (w4 d n k b i).1 n ((k:Int)+i) ((b.drop (64*i)).take 64) h2;omega
  .omega
theorem yX(h:d.Ok n)(k:Nat)(b:List UInt8):∀i,(w4 d n k b i).1.Ok n
 |0=>h
 |i+1=>by
  unfold w4
  split
  .exact(yX h k b i).write _ _
  .exact yX h k b i
def bs(d:D)(n:Nat)(id ep kd:Int)(s:List UInt8):D×Int:=
 if(dM id ep kd s).2≠0 then(d,(dM id ep kd s).2)
 else if(cB n:Int)<=id then(d,3)
 else w4 d n (2+4*id.toNat) (dM id ep kd s).1 4
theorem qT(d:D)(n:Nat)(id ep kd:Int)(s:List UInt8)(h:d.bt<=9223372036854775807):(bs d n id ep kd s).1.calls<=d.calls+4/\(bs d n id ep kd s).1.bt<=9223372036854775807:=by
 unfold bs
 split
 .exact⟨by show d.calls<=_;omega,h⟩
 .split
  .exact⟨by show d.calls<=_;omega,h⟩
  .exact SC d n _ _ h 4
theorem yY{id ep kd:Int}{s:List UInt8}(h:(dM id ep kd s).2=0):(dM id ep kd s).1.length=256/\JZ id ep kd=true:=by
 unfold dM at h ⊢
 split at h
 .rename_i fu;rw[if_pos fu]
  split at h
  .simp at h
  .rename_i hs;rw[if_neg hs];have h1:(eP (lk id ep kd s) 252).length=252:=by
    have:(lk id ep kd s).length=20+s.length:=by unfold lk;simp[fW,oK];omega
    unfold eP;rw[aU,ez];omega
   refine⟨?_,fu⟩;show(kD id ep kd s).length=256;unfold kD jy.bH;rw[aU,h1];simp[jy.jl]
 .simp at h
theorem Cs{w:World}{L:Dk.Loc}(h:aZ w L n d)(id ep kd:Int)(s:ByteArray)(hid:id<=9223372036854775807)(he:(dM id ep kd s.data.toList).2≠0\/(cB n:Int)<=id):
  Calls prog 225 #[dp L.b,jn id ep kd s] w λe w'=>e=.returned (.int .i64 (bs d n id ep kd s.data.toList).2)/\aZ w' L n (bs d n id ep kd s.data.toList).1/\Below w.heap.size w w':=by
 have O0:=xh (ae (Below.refl w.heap.size w) (.cells #[.int .i64 id,.int .i64 ep,.int .i64 kd,.string s] 162));have B0:=xh (aJ.new w 162 #[.int .i64 id,.int .i64 ep,.int .i64 kd,.string s]);have K:=xh (λw=>Gy (w:=w) id ep kd s hid);have KM:=xh (λw' (hb:Below w.heap.size w w')=>nI (h.below hb));have HD:=xh h;have c0:=B0.o.ab (i:=0) rfl;have c1:=B0.o.ab (i:=1) rfl;have c2:=B0.o.ab (i:=2) rfl
 have c3:=B0.o.ab (i:=3) rfl;have Ct:((dM id ep kd s.data.toList).2≠0/\bs d n id ep kd s.data.toList=(d,(dM id ep kd s.data.toList).2))\/((dM id ep kd s.data.toList).2=0/\(cB n:Int)<=id/\bs d n id ep kd s.data.toList=(d,3)):=by
  by_cases h1:(dM id ep kd s.data.toList).2=0
  .have h2:=he.resolve_left (λh=>h h1);right;refine⟨h1,h2,?_⟩;unfold bs;rw[if_neg (by simpa using h1),if_pos h2]
  .left;refine⟨h1,?_⟩;unfold bs;rw[if_pos h1]
 generalize (dM id ep kd s.data.toList).2=er at *;generalize (⟨(dM id ep kd s.data.toList).1.toArray⟩:ByteArray)=S at *;generalize bs d n id ep kd s.data.toList=R at *;generalize cB n=mn at *;clear h he;unfold jn dp at *
 rcases Ct with⟨h1,h2⟩|⟨h1,h3,h2⟩
 .subst h2;have hb:(er != 0)=true:=by rw[bne_iff_ne];exact h1
  go_enter func225,ntmps225;go_wp2_with fail;refine(K.o _).mono ?_;rintro e w1 ⟨rfl,bf⟩;have O1:=xh (aB O0.o bf);clear bf;go_wp2_with fail;go_ret;exact⟨rfl,HD.o.below O1.o,O1.o⟩
 .subst h2;subst h1;go_enter func225,ntmps225;go_wp2_with fail;refine(K.o _).mono ?_;rintro e w1 ⟨rfl,bf⟩;have O1:=xh (aB O0.o bf);have B1:=xh (B0.o.below bf B0.o.lt);clear bf c0 c1 c2 c3;have c0:=B1.o.ab (i:=0) rfl;go_wp2_with fail;have KX:=xh (λm=>KM.o (w1.drewN m) (dS O1.o m));go_quiet ((go_at_call 136;exact yQ (KX.o _)));go_wp2_with fail;go_ret;exact⟨rfl,HD.o.below (dS O1.o _),dS O1.o _⟩
variable{w:World}{L:Dk.Loc}{n:Nat}{d:D}
theorem Ew(a0 a1 a2 a3:Int)(w:World)(k:Nat)(x:Value)(hx: #[Value.int .i64 a0,.int .i64 a1,.int .i64 a2,.int .i64 a3][k]?=some x):
  (Instr.index 244 (.agg #[.int .i64 a0,.int .i64 a1,.int .i64 a2,.int .i64 a3]) (.int .i64 (k:Int))).run prog w=.ok x w:=by
 have hu:prog.underlying 244=some (.array 4 3):=by kernel_rfl
 have hm:(prog.info? 3).map (·.size)=some 1:=by kernel_rfl
 have hp:prog.plainKey 3=true:=by kernel_rfl
 have hk:k<4:=by
  rcases eR k 4 with h|h
  .exact h
  .rw[RJ (by simpa using h)]at hx;cases hx
 cases hq:prog.info? 3 with
 |none=>simp[hq]at hm
 |some i=>
  simp only[hq,kU,Option.some.injEq]at hm;have:=run_part_plain (P:=prog) w hp hx;simp[Instr.index,asIntOf,run_underlying hu,hk,sizeOf,typeInfo,hq,hm];exact this
theorem J2(h:aZ w L n d)(id:Nat)(ep kd:Int)(s:ByteArray)(hp:(dM id ep kd s.data.toList).2=0)(hm:id<cB n)(hc:d.calls<=3999999999999999990)(hr:d.bt<=9223372036854775807):
  Calls prog 225 #[dp L.b,jn id ep kd s] w λe w'=>e=.returned (.int .i64 (w4 d n (2+4*id) (dM id ep kd s.data.toList).1 4).2)/\aZ w' L n (w4 d n (2+4*id) (dM id ep kd s.data.toList).1 4).1/\ag L.fp w w':=by
 have hn:=h.ok.small;have hmn:cB n<=1023:=by unfold cB;omega
 have O0:=xh (ae (Below.refl w.heap.size w) (.cells #[.int .i64 (id:Nat),.int .i64 ep,.int .i64 kd,.string s] 162));have B0:=xh (aJ.new w 162 #[.int .i64 (id:Nat),.int .i64 ep,.int .i64 kd,.string s]);have K:=λw=>Gy (w:=w) id ep kd s (by omega);have hlen:=(yY hp).1;rw[hp]at K;obtain⟨T,hT⟩:∃T:ByteArray,(⟨(dM id ep kd s.data.toList).1.toArray⟩:ByteArray)=T:=⟨_,rfl⟩;rw[hT]at K;have Jq:T.data.toList=(dM id ep kd s.data.toList).1:=by rw[<-hT]
 have hTs:T.size=256:=by rw[<-hT,iN,hlen]
 rw[<-Jq];have HX:=xh (show ∀i:Nat,(T.extract (64*i) (64*(i+1))).data.toList=(T.data.toList.drop (64*i)).take 64 from λi=>by rw[exl,show 64*(i+1)-64*i=64 by omega]);have K:=xh K;have KM:=xh (λw' (hb:Below w.heap.size w w')=>nI (h.below hb));have KS:=xh (λw=>oN (w:=w) id (by omega));have HB:=xh (SC d n (2+4*id) T.data.toList hr);have H4:=xh (Sz d n (2+4*id) T.data.toList);have HS:=xh (Nr d n (2+4*id) T.data.toList)
 have HC:=xh hc;have HD:=xh h;have hmI:¬((cB n:Nat):Int)<=(id:Int):=by omega
 have c0:=B0.o.ab (i:=0) rfl;have c1:=B0.o.ab (i:=1) rfl;have c2:=B0.o.ab (i:=2) rfl;have c3:=B0.o.ab (i:=3) rfl;generalize cB n=mn at *;clear h hp hT Jq hlen hc hr;unfold jn dp pS at *;generalize hk:2+4*id=k at *;clear hk;go_enter func225,ntmps225;go_wp2_with fail;refine(K.o _).mono ?_;rintro e w1 ⟨rfl,bf⟩;have O1:=xh (aB O0.o bf);have B1:=xh (B0.o.below bf B0.o.lt);clear bf c0 c1 c2 c3 K
 have c0:=B1.o.ab (i:=0) rfl;have KX:=xh (λm=>KM.o (w1.drewN m) (dS O1.o m));go_wp2_with fail;go_quiet ((go_at_call 136;exact yQ (KX.o _)));have O2:=xh (dS O1.o nq);have B2:=xh (B1.o.drewN nq);generalize Ex:w1.drewN nq=w2 at *;clear c0 O1 B1 Ex KX KM;have c0:=B2.o.ab (i:=0) rfl;go_wp2_with fail;refine(KS.o _).mono ?_;rintro e w3 ⟨rfl,gh⟩;have O3:=xh (aB O2.o gh);have D3:=xh (HD.o.below O3.o)
 clear gh c0 KS O2 B2;go_wp2_with fail
 go_loopw [30] (λiv wr=> ∃i:Nat,i<=4/\iv=.int .i64 i/\Hid (aZ wr L n (w4 d n k T.data.toList i).1)/\Hid ((w4 d n k T.data.toList i).2=0)/\Hid (ag L.fp w wr)) (λiv _=>4-(intOf iv).toNat)
 case atStart=>exact⟨0,by omega,rfl,D3,xh rfl,xh (.aj O3.o)⟩
 case round=>
  obtain⟨i,hi,rfl,DD,EZ,O⟩:=hrel;have ii:i=0\/i=1\/i=2\/i=3\/i=4:=by omega
  rcases ii with rfl|rfl|rfl|rfl|rfl
  .have bd:=HB.o 0;have KW:=kI DD.o ((k:Int)) (T.extract 0 64) (by have:=HC.o;omega) (by omega);have hx:=HX.o 0;have h4:=H4.o 0 EZ.o;rw[show(T.extract 0 64).data.toList=(T.data.toList.drop (64*0)).take 64 from hx,show((k:Int))=(k:Int)+((0:Nat):Int)from by omega,<-h4,show(k:Int)+((0:Nat):Int)=(k:Int)from by omega]at KW;have KW:=xh KW;clear hx h4 bd
   have IX:=xh (show(Instr.index 244 (.agg #[.int .i64 (k:Int),.int .i64 ((k:Int)+1),.int .i64 ((k:Int)+2),.int .i64 ((k:Int)+3)]) (.int .i64 0)).run prog wr=.ok (.int .i64 ((k:Int))) wr from Ew (k:Int) ((k:Int)+1) ((k:Int)+2) ((k:Int)+3) wr 0 _ rfl);go_wp2_with fail;rw[IX.o];go_wp2_with fail;refine KW.o.mono ?_;rintro e wz ⟨rfl,dd,oz⟩;have DZ:=xh dd;have OZ:=xh (O.o.trans oz);clear dd oz KW
   by_cases hz:(w4 d n k T.data.toList 1).2=0
   .have HZ:=xh hz;have hq:((w4 d n k T.data.toList 1).2 != 0)=false:=by rw[hz];rfl
    clear hz;go_wp2_with fail;go_roundw
    case rel=>exact⟨1,by omega,by first|rfl|simp,DZ,HZ,OZ⟩
    case measure=>first|decide|simp[intOf]
   .have hs:=HS.o 1 4 hz (by omega);have SD:=xh hs;have hq:((w4 d n k T.data.toList 1).2 != 0)=true:=by rw[bne_iff_ne];exact hz
    clear hz hs;go_wp2_with fail;go_ret;exact⟨by first|rfl|(rw[SD.o];rfl),by first|exact DZ.o|(rw[SD.o];exact DZ.o),OZ.o⟩
  .have bd:=HB.o 1;have KW:=kI DD.o ((k:Int)+1) (T.extract 64 128) (by have:=HC.o;omega) (by omega);have hx:=HX.o 1;have h4:=H4.o 1 EZ.o;rw[show(T.extract 64 128).data.toList=(T.data.toList.drop (64*1)).take 64 from hx,show((k:Int)+1)=(k:Int)+((1:Nat):Int)from by omega,<-h4,show(k:Int)+((1:Nat):Int)=(k:Int)+1 from by omega]at KW;have KW:=xh KW;clear hx h4 bd
   have IX:=xh (show(Instr.index 244 (.agg #[.int .i64 (k:Int),.int .i64 ((k:Int)+1),.int .i64 ((k:Int)+2),.int .i64 ((k:Int)+3)]) (.int .i64 1)).run prog wr=.ok (.int .i64 ((k:Int)+1)) wr from Ew (k:Int) ((k:Int)+1) ((k:Int)+2) ((k:Int)+3) wr 1 _ rfl);go_wp2_with fail;rw[IX.o];go_wp2_with fail;refine KW.o.mono ?_;rintro e wz ⟨rfl,dd,oz⟩;have DZ:=xh dd;have OZ:=xh (O.o.trans oz);clear dd oz KW
   by_cases hz:(w4 d n k T.data.toList 2).2=0
   .have HZ:=xh hz;have hq:((w4 d n k T.data.toList 2).2 != 0)=false:=by rw[hz];rfl
    clear hz;go_wp2_with fail;go_roundw
    case rel=>exact⟨2,by omega,by first|rfl|simp,DZ,HZ,OZ⟩
    case measure=>first|decide|simp[intOf]
   .have hs:=HS.o 2 4 hz (by omega);have SD:=xh hs;have hq:((w4 d n k T.data.toList 2).2 != 0)=true:=by rw[bne_iff_ne];exact hz
    clear hz hs;go_wp2_with fail;go_ret;exact⟨by first|rfl|(rw[SD.o];rfl),by first|exact DZ.o|(rw[SD.o];exact DZ.o),OZ.o⟩
  .have bd:=HB.o 2;have KW:=kI DD.o ((k:Int)+2) (T.extract 128 192) (by have:=HC.o;omega) (by omega);have hx:=HX.o 2;have h4:=H4.o 2 EZ.o;rw[show(T.extract 128 192).data.toList=(T.data.toList.drop (64*2)).take 64 from hx,show((k:Int)+2)=(k:Int)+((2:Nat):Int)from by omega,<-h4,show(k:Int)+((2:Nat):Int)=(k:Int)+2 from by omega]at KW;have KW:=xh KW;clear hx h4 bd
   have IX:=xh (show(Instr.index 244 (.agg #[.int .i64 (k:Int),.int .i64 ((k:Int)+1),.int .i64 ((k:Int)+2),.int .i64 ((k:Int)+3)]) (.int .i64 2)).run prog wr=.ok (.int .i64 ((k:Int)+2)) wr from Ew (k:Int) ((k:Int)+1) ((k:Int)+2) ((k:Int)+3) wr 2 _ rfl);go_wp2_with fail;rw[IX.o];go_wp2_with fail;refine KW.o.mono ?_;rintro e wz ⟨rfl,dd,oz⟩;have DZ:=xh dd;have OZ:=xh (O.o.trans oz);clear dd oz KW
   by_cases hz:(w4 d n k T.data.toList 3).2=0
   .have HZ:=xh hz;have hq:((w4 d n k T.data.toList 3).2 != 0)=false:=by rw[hz];rfl
    clear hz;go_wp2_with fail;go_roundw
    case rel=>exact⟨3,by omega,by first|rfl|simp,DZ,HZ,OZ⟩
    case measure=>first|decide|simp[intOf]
   .have hs:=HS.o 3 4 hz (by omega);have SD:=xh hs;have hq:((w4 d n k T.data.toList 3).2 != 0)=true:=by rw[bne_iff_ne];exact hz
    clear hz hs;go_wp2_with fail;go_ret;exact⟨by first|rfl|(rw[SD.o];rfl),by first|exact DZ.o|(rw[SD.o];exact DZ.o),OZ.o⟩
  .have bd:=HB.o 3;have KW:=kI DD.o ((k:Int)+3) (T.extract 192 256) (by have:=HC.o;omega) (by omega);have hx:=HX.o 3;have h4:=H4.o 3 EZ.o;rw[show(T.extract 192 256).data.toList=(T.data.toList.drop (64*3)).take 64 from hx,show((k:Int)+3)=(k:Int)+((3:Nat):Int)from by omega,<-h4,show(k:Int)+((3:Nat):Int)=(k:Int)+3 from by omega]at KW;have KW:=xh KW;clear hx h4 bd
   have IX:=xh (show(Instr.index 244 (.agg #[.int .i64 (k:Int),.int .i64 ((k:Int)+1),.int .i64 ((k:Int)+2),.int .i64 ((k:Int)+3)]) (.int .i64 3)).run prog wr=.ok (.int .i64 ((k:Int)+3)) wr from Ew (k:Int) ((k:Int)+1) ((k:Int)+2) ((k:Int)+3) wr 3 _ rfl);go_wp2_with fail;rw[IX.o];go_wp2_with fail;refine KW.o.mono ?_;rintro e wz ⟨rfl,dd,oz⟩;have DZ:=xh dd;have OZ:=xh (O.o.trans oz);clear dd oz KW
   by_cases hz:(w4 d n k T.data.toList 4).2=0
   .have HZ:=xh hz;have hq:((w4 d n k T.data.toList 4).2 != 0)=false:=by rw[hz];rfl
    clear hz;go_wp2_with fail;go_roundw
    case rel=>exact⟨4,by omega,by first|rfl|simp,DZ,HZ,OZ⟩
    case measure=>first|decide|simp[intOf]
   .have hs:=HS.o 4 4 hz (by omega);have SD:=xh hs;have hq:((w4 d n k T.data.toList 4).2 != 0)=true:=by rw[bne_iff_ne];exact hz
    clear hz hs;go_wp2_with fail;go_ret;exact⟨by first|rfl|(rw[SD.o];rfl),by first|exact DZ.o|(rw[SD.o];exact DZ.o),OZ.o⟩
  .go_wp2_with fail;go_ret;exact⟨by rw[EZ.o];rfl,DD.o,O.o⟩
theorem J3(h:aZ w L n d)(id ep kd:Int)(s:ByteArray)(hid:id<=9223372036854775807)(hc:d.calls<=3999999999999999990)(hr:d.bt<=9223372036854775807):
  Calls prog 225 #[dp L.b,jn id ep kd s] w λe w'=>e=.returned (.int .i64 (bs d n id ep kd s.data.toList).2)/\aZ w' L n (bs d n id ep kd s.data.toList).1/\ag L.fp w w':=by
 by_cases hp:(dM id ep kd s.data.toList).2=0
 .by_cases hm:(cB n:Int)<=id
  .exact(Cs h id ep kd s hid (.inr hm)).mono λe w' hx=>⟨hx.1,hx.2.1,.aj hx.2.2⟩
  .have fu:=(oI id ep kd).1 (yY hp).2;obtain⟨a,rfl⟩:=eT fu.1;have e1:bs d n a ep kd s.data.toList=w4 d n (2+4*a) (dM a ep kd s.data.toList).1 4:=by
    unfold bs;rw[if_neg (by simpa using hp),if_neg hm];rfl
   rw[e1];exact J2 h a ep kd s hp (by omega) hc hr
 .exact(Cs h id ep kd s hid (.inl hp)).mono λe w' hx=>⟨hx.1,hx.2.1,.aj hx.2.2⟩
attribute [local go_sem ↓] vu
variable{w:World}{L:Dk.Loc}{n:Nat}{d:D}
def bu(d:D)(n:Nat)(id:Int):PG×Int:=
 if id<0\/(cB n:Int)<=id then(.zero,3)
 else if d.down=true then(.zero,13)
 else if(jL ((d.now.drop (64*(2+4*id.toNat))).take 256)).2≠0 then(.zero,(jL ((d.now.drop (64*(2+4*id.toNat))).take 256)).2)
 else if(jL ((d.now.drop (64*(2+4*id.toNat))).take 256)).1.id≠id then(.zero,14)
 else((jL ((d.now.drop (64*(2+4*id.toNat))).take 256)).1,0)
theorem pT(F:List UInt8)(k i:Nat):(F.drop (64*k)).take (64*(i+1))=(F.drop (64*k)).take (64*i)++sec F (k+i):=by
 unfold sec;rw[show 64*(i+1)=64*i+64 by omega,List.take_add,iK,show 64*k+64*i=64*(k+i) by omega]
theorem Ey(d:D)(n:Nat)(k:Nat)(h:k<n):d.jM n k=if d.down=true then 13 else 0:=by
 unfold D.jM;rw[if_pos (show 0<=(k:Int)/\(k:Int)<n by omega)]
theorem J4(d:D)(n:Nat)(k:Nat)(h:k<n)(hd:d.down=true):d.aP n k=([],13):=by
 unfold D.aP;rw[Ey d n k h,if_pos hd];rfl
theorem SG(d:D)(n:Nat)(k:Nat)(h:k<n)(hd:d.down=false):d.aP n k=(sec d.now k,0):=by
 unfold D.aP;rw[Ey d n k h];simp[hd]
theorem Ps(b:Nat)(id:Int)(h:id<0):
  Calls prog 139 #[dp b,.int .i64 id] w λe w'=>e=.returned (.tuple #[PG.zero.val,.int .i64 3])/\Below w.heap.size w w':=by
 have B0:=xh (aJ.new w 162 iy);have O0:=xh (ae (Below.refl w.heap.size w) (.cells iy 162));unfold dp;go_enter func139,ntmps139;go_wp2_with fail;exact bodyPost_ret (dY rfl rfl B0.o) rfl ⟨rfl,O0.o⟩
theorem Pt(hd:aZ w L n d)(id:Int)(h0:0<=id)(h:(cB n:Int)<=id):
  Calls prog 139 #[dp L.b,.int .i64 id] w λe w'=>e=.returned (.tuple #[PG.zero.val,.int .i64 3])/\Below w.heap.size w w':=by
 have B0:=xh (aJ.new w 162 iy);have O0:=ae (Below.refl w.heap.size w) (.cells iy 162);have K:=xh (nI (hd.below O0));have O0:=xh O0;have h1:¬id<0:=by omega
 clear hd;have z0:=B0.o.frozen 0 (by simp);have z1:=B0.o.frozen 1 (by simp);have z2:=B0.o.frozen 2 (by simp);have z3:=B0.o.frozen 3 (by simp);have c0:=B0.o.ab (i:=0) rfl;have c1:=B0.o.ab (i:=1) rfl;have c2:=B0.o.ab (i:=2) rfl;have c3:=B0.o.ab (i:=3) rfl;have ZB:=xh (kh B0.o rfl 0 0 0 ⟨#[]⟩);have ZO:=xh (fA O0.o (ak _) 0 0 0 ⟨#[]⟩);unfold dp at *;go_enter func139,ntmps139;go_wp2_with fail
 refine K.o.mono ?_;rintro e w1 ⟨rfl,rfl⟩;go_wp2_with fail;exact bodyPost_ret (dY rfl rfl B0.o) rfl ⟨rfl,O0.o⟩
theorem J5(hd:aZ w L n d)(id:Nat)(h:id<cB n)(Jt:d.down=true):
  Calls prog 139 #[dp L.b,.int .i64 (id:Nat)] w λe w'=>e=.returned (.tuple #[PG.zero.val,.int .i64 13])/\Below w.heap.size w w':=by
 have hn:=hd.ok.small;have hmn:cB n<=1023:=by unfold cB;omega
 have BC:2+4*id<n:=by unfold cB at h;omega
 have B0:=xh (aJ.new w 162 iy);have O0:=ae (Below.refl w.heap.size w) (.cells iy 162);have K:=xh (nI (hd.below O0));have O0:=xh O0;have KS:=xh (λw=>oN (w:=w) id (by omega));have KR:=λw' (hb:Below w.heap.size w w')=>nH (hd.below hb) ((2+4*id:Nat):Int);rw[J4 d n _ BC Jt]at KR;have KR:=xh KR;have h1:¬((id:Nat):Int)<0:=by omega
 have h2:¬((cB n:Nat):Int)<=(id:Int):=by omega
 clear hd;generalize cB n=mn at *;generalize 2+4*id=k at *;unfold dp pS at *;go_enter func139,ntmps139;go_wp2_with fail;refine K.o.mono ?_;rintro e w1 ⟨rfl,rfl⟩;go_wp2_with fail;refine(KS.o _).mono ?_;rintro e w2 ⟨rfl,cA⟩;have O2:=xh (aB O0.o cA);have B2:=xh (B0.o.below cA B0.o.lt);clear cA;have z0:=B2.o.frozen 0 (by simp);have z1:=B2.o.frozen 1 (by simp);have z2:=B2.o.frozen 2 (by simp);have z3:=B2.o.frozen 3 (by simp)
 have c0:=B2.o.ab (i:=0) rfl;have c1:=B2.o.ab (i:=1) rfl;have c2:=B2.o.ab (i:=2) rfl;have c3:=B2.o.ab (i:=3) rfl;have ZB:=xh (kh B2.o rfl 0 0 0 ⟨#[]⟩);have ZO:=xh (fA O2.o (ak _) 0 0 0 ⟨#[]⟩)
 have IX:=xh (show(Instr.index 244 (.agg #[.int .i64 (k:Int),.int .i64 ((k:Int)+1),.int .i64 ((k:Int)+2),.int .i64 ((k:Int)+3)]) (.int .i64 0)).run prog w2=.ok (.int .i64 (k:Int)) w2 from Ew (k:Int) ((k:Int)+1) ((k:Int)+2) ((k:Int)+3) w2 0 _ rfl);go_wp2_with fail
 go_loopw [6,29] (λbv iv wr=>bv=.slice none 0 0/\iv=.int .i64 0/\wr=w2) (λ_ _ _=>0)
 case atStart=>exact⟨rfl,rfl,rfl⟩
 case round=>
  obtain⟨rfl,rfl,rfl⟩:=hrel;go_wp2_with fail;rw[IX.o];go_wp2_with fail;refine(KR.o _ O2.o).mono ?_;rintro e w3 ⟨rfl,rfl⟩;go_wp2_with fail;exact bodyPost_ret (dY rfl rfl ZB.o) rfl ⟨rfl,ZO.o⟩
theorem SH(hd:aZ w L n d)(id:Nat)(h:id<cB n)(Jt:d.down=false):
  Calls prog 139 #[dp L.b,.int .i64 (id:Nat)] w λe w'=>e=.returned (.tuple #[(bu d n id).1.val,.int .i64 (bu d n id).2])/\Below w.heap.size w w':=by
 have hn:=hd.ok.small;have hnow:=hd.ok.now;have hmn:cB n<=1023:=by unfold cB;omega
 have BC:2+4*id+3<n:=by unfold cB at h;omega
 have B0:=xh (aJ.new w 162 iy);have O0:=ae (Below.refl w.heap.size w) (.cells iy 162);have K:=xh (nI (hd.below O0));have O0:=xh O0;have KS:=xh (λw=>oN (w:=w) id (by omega));have KR:=λi (hi:i<=3) w' (hb:Below w.heap.size w w')=>by
  have h:=nH (hd.below hb) ((2+4*id+i:Nat):Int);rw[SG d n _ (by omega) Jt]at h;exact h
 have KR:=xh KR;obtain⟨l,hl⟩:∃l,(d.now.drop (64*(2+4*id))).take 256=l:=⟨_,rfl⟩;have hres:bu d n id=if(jL l).2≠0 then(.zero,(jL l).2)else if(jL l).1.id≠(id:Int)then(.zero,14)else((jL l).1,0):=by
  unfold bu;rw[if_neg (by omega),if_neg (by simp[Jt]),show((id:Nat):Int).toNat=id from by omega,hl]
 generalize bu d n id=R at *;have HR:=xh hres;have Pu:=xh (show((d.now.drop (64*(2+4*id))).take 256).length=256 from by rw[bm,cO];omega);have HNX:=xh (pT d.now (2+4*id));have HL:=xh hl;have KG:=xh (λw=>Ss (w:=w) ⟨l.toArray⟩);have tE:=xh (show ∀i,i<=4->((d.now.drop (64*(2+4*id))).take (64*i)).length=64*i from λi hi=>by rw[bm,cO];omega)
 have HSZ:=xh (show ∀i,i<=3->(sec d.now (2+4*id+i)).length=64 from λi hi=>my hnow (by omega));have h1:¬((id:Nat):Int)<0:=by omega
 have h2:¬((cB n:Nat):Int)<=(id:Int):=by omega
 clear hd hl hres hnow;generalize cB n=mn at *;generalize 2+4*id=k at *;unfold dp pS at *;go_enter func139,ntmps139;go_wp2_with fail;refine K.o.mono ?_;rintro e w1 ⟨rfl,rfl⟩;go_wp2_with fail;refine(KS.o _).mono ?_;rintro e w2 ⟨rfl,cA⟩;have O2:=xh (aB O0.o cA);have B2:=xh (B0.o.below cA B0.o.lt);have y2:=B2.o.lt;clear cA B0 O0 K KS;go_wp2_with fail
 go_loopw [6,29] (λbv iv wr=> ∃i:Nat,i<=4/\iv=.int .i64 i/\aT wr 5 1 bv (64*i) (dI ((d.now.drop (64*k)).take (64*i)))/\Hid (Below w.heap.size w wr)/\Hid (Below w2.heap.size w2 wr)/\Hid (∀g∈ai bv,w2.heap.size<=g)) (λ_ iv _=>4-(intOf iv).toNat)
 case atStart=>exact⟨0,by omega,rfl,by rw[tT,jb];exact aT.nil _ _ _,O2,xh (Below.refl _ _),xh (by simp[ai])⟩
 case round=>
  obtain⟨i,hi,rfl,S,O,OB,F⟩:=hrel;have ii:i=0\/i=1\/i=2\/i=3\/i=4:=by omega
  rcases ii with rfl|rfl|rfl|rfl|rfl
  .have hr:=KR.o 0 (by omega) _ O.o;rw[show((k+0:Nat):Int)=(k:Int)from by omega]at hr;have SI:=xh hr;have S:aT wr 5 1 _ 0 (dI ((d.now.drop (64*k)).take 0)):=S;obtain⟨V1,tD,rfl⟩:=au S;obtain⟨U,hU⟩:∃U:ByteArray,(⟨(sec d.now (k+0)).toArray⟩:ByteArray)=U:=⟨_,rfl⟩;rw[hU]at SI;have Gx:U.data.toList=sec d.now (k+0):=by rw[<-hU]
   have Rx:U.size=64:=by rw[<-hU,iN];exact HSZ.o 0 (by omega)
   obtain⟨v2,w4,ea,S2,ow,fr⟩:=iM (P:=prog) S 150 9 150 underlying150 underlying9 jy.eA U (by rw[Rx];omega);obtain⟨V2,ix,rfl⟩:=au S2;rw[Rx]at ea S2 fr;have EA:=xh (show pP prog 150 9 150 wr (.slice V1 0 tD) (.string U)= .ok (.slice V2 64 ix) w4 from ea);have SX:=xh (show aT w4 5 1 (.slice V2 64 ix) (64*1) (dI ((d.now.drop (64*k)).take (64*1)))from by
    have hn:=HNX.o 0;rw[show 64*(0+1)=64*1 from rfl,<-Gx]at hn;rw[hn,cP];exact S2)
   have OX:=xh (O.o.trans (ow.aI O.o.size (λg hg=>ar O2.o.size (F.o g hg))));have OBX:=xh (OB.o.trans (ow.aI OB.o.size F.o));have FX:=xh (show ∀g∈ai (.slice V2 64 ix),w2.heap.size<=g from λg hg=>(fr g hg).elim (F.o g) (λh=>ar OB.o.size h))
   have IX:=xh (show(Instr.index 244 (.agg #[.int .i64 (k:Int),.int .i64 ((k:Int)+1),.int .i64 ((k:Int)+2),.int .i64 ((k:Int)+3)]) (.int .i64 0)).run prog wr=.ok (.int .i64 ((k:Int))) wr from Ew (k:Int) ((k:Int)+1) ((k:Int)+2) ((k:Int)+3) wr 0 _ rfl);clear hr ea S2 ow fr S hU Gx;go_wp2_with fail;rw[IX.o];go_wp2_with fail;refine SI.o.mono ?_;rintro e wz ⟨rfl,rfl⟩;go_wp2_with fail;rw[EA.o];go_wp2_with fail;go_roundw
   case rel=>exact⟨1,by omega,by first|rfl|simp,SX.o,OX,OBX,FX⟩
   case measure=>first|decide|simp[intOf]
  .have hr:=KR.o 1 (by omega) _ O.o;rw[show((k+1:Nat):Int)=(k:Int)+1 from by omega]at hr;have SI:=xh hr;have S:aT wr 5 1 _ 64 (dI ((d.now.drop (64*k)).take 64)):=S;obtain⟨V1,tD,rfl⟩:=au S;obtain⟨U,hU⟩:∃U:ByteArray,(⟨(sec d.now (k+1)).toArray⟩:ByteArray)=U:=⟨_,rfl⟩;rw[hU]at SI;have Gx:U.data.toList=sec d.now (k+1):=by rw[<-hU]
   have Rx:U.size=64:=by rw[<-hU,iN];exact HSZ.o 1 (by omega)
   obtain⟨v2,w4,ea,S2,ow,fr⟩:=iM (P:=prog) S 150 9 150 underlying150 underlying9 jy.eA U (by rw[Rx];omega);obtain⟨V2,ix,rfl⟩:=au S2;rw[Rx]at ea S2 fr;have EA:=xh (show pP prog 150 9 150 wr (.slice V1 64 tD) (.string U)= .ok (.slice V2 128 ix) w4 from ea);have SX:=xh (show aT w4 5 1 (.slice V2 128 ix) (64*2) (dI ((d.now.drop (64*k)).take (64*2)))from by
    have hn:=HNX.o 1;rw[show 64*(1+1)=64*2 from rfl,<-Gx]at hn;rw[hn,cP];exact S2)
   have OX:=xh (O.o.trans (ow.aI O.o.size (λg hg=>ar O2.o.size (F.o g hg))));have OBX:=xh (OB.o.trans (ow.aI OB.o.size F.o));have FX:=xh (show ∀g∈ai (.slice V2 128 ix),w2.heap.size<=g from λg hg=>(fr g hg).elim (F.o g) (λh=>ar OB.o.size h))
   have IX:=xh (show(Instr.index 244 (.agg #[.int .i64 (k:Int),.int .i64 ((k:Int)+1),.int .i64 ((k:Int)+2),.int .i64 ((k:Int)+3)]) (.int .i64 1)).run prog wr=.ok (.int .i64 ((k:Int)+1)) wr from Ew (k:Int) ((k:Int)+1) ((k:Int)+2) ((k:Int)+3) wr 1 _ rfl);clear hr ea S2 ow fr S hU Gx;go_wp2_with fail;rw[IX.o];go_wp2_with fail;refine SI.o.mono ?_;rintro e wz ⟨rfl,rfl⟩;go_wp2_with fail;rw[EA.o];go_wp2_with fail;go_roundw
   case rel=>exact⟨2,by omega,by first|rfl|simp,SX.o,OX,OBX,FX⟩
   case measure=>first|decide|simp[intOf]
  .have hr:=KR.o 2 (by omega) _ O.o;rw[show((k+2:Nat):Int)=(k:Int)+2 from by omega]at hr;have SI:=xh hr;have S:aT wr 5 1 _ 128 (dI ((d.now.drop (64*k)).take 128)):=S;obtain⟨V1,tD,rfl⟩:=au S;obtain⟨U,hU⟩:∃U:ByteArray,(⟨(sec d.now (k+2)).toArray⟩:ByteArray)=U:=⟨_,rfl⟩;rw[hU]at SI;have Gx:U.data.toList=sec d.now (k+2):=by rw[<-hU]
   have Rx:U.size=64:=by rw[<-hU,iN];exact HSZ.o 2 (by omega)
   obtain⟨v2,w4,ea,S2,ow,fr⟩:=iM (P:=prog) S 150 9 150 underlying150 underlying9 jy.eA U (by rw[Rx];omega);obtain⟨V2,ix,rfl⟩:=au S2;rw[Rx]at ea S2 fr;have EA:=xh (show pP prog 150 9 150 wr (.slice V1 128 tD) (.string U)= .ok (.slice V2 192 ix) w4 from ea);have SX:=xh (show aT w4 5 1 (.slice V2 192 ix) (64*3) (dI ((d.now.drop (64*k)).take (64*3)))from by
    have hn:=HNX.o 2;rw[show 64*(2+1)=64*3 from rfl,<-Gx]at hn;rw[hn,cP];exact S2)
   have OX:=xh (O.o.trans (ow.aI O.o.size (λg hg=>ar O2.o.size (F.o g hg))));have OBX:=xh (OB.o.trans (ow.aI OB.o.size F.o));have FX:=xh (show ∀g∈ai (.slice V2 192 ix),w2.heap.size<=g from λg hg=>(fr g hg).elim (F.o g) (λh=>ar OB.o.size h))
   have IX:=xh (show(Instr.index 244 (.agg #[.int .i64 (k:Int),.int .i64 ((k:Int)+1),.int .i64 ((k:Int)+2),.int .i64 ((k:Int)+3)]) (.int .i64 2)).run prog wr=.ok (.int .i64 ((k:Int)+2)) wr from Ew (k:Int) ((k:Int)+1) ((k:Int)+2) ((k:Int)+3) wr 2 _ rfl);clear hr ea S2 ow fr S hU Gx;go_wp2_with fail;rw[IX.o];go_wp2_with fail;refine SI.o.mono ?_;rintro e wz ⟨rfl,rfl⟩;go_wp2_with fail;rw[EA.o];go_wp2_with fail;go_roundw
   case rel=>exact⟨3,by omega,by first|rfl|simp,SX.o,OX,OBX,FX⟩
   case measure=>first|decide|simp[intOf]
  .have hr:=KR.o 3 (by omega) _ O.o;rw[show((k+3:Nat):Int)=(k:Int)+3 from by omega]at hr;have SI:=xh hr;have S:aT wr 5 1 _ 192 (dI ((d.now.drop (64*k)).take 192)):=S;obtain⟨V1,tD,rfl⟩:=au S;obtain⟨U,hU⟩:∃U:ByteArray,(⟨(sec d.now (k+3)).toArray⟩:ByteArray)=U:=⟨_,rfl⟩;rw[hU]at SI;have Gx:U.data.toList=sec d.now (k+3):=by rw[<-hU]
   have Rx:U.size=64:=by rw[<-hU,iN];exact HSZ.o 3 (by omega)
   obtain⟨v2,w4,ea,S2,ow,fr⟩:=iM (P:=prog) S 150 9 150 underlying150 underlying9 jy.eA U (by rw[Rx];omega);obtain⟨V2,ix,rfl⟩:=au S2;rw[Rx]at ea S2 fr;have EA:=xh (show pP prog 150 9 150 wr (.slice V1 192 tD) (.string U)= .ok (.slice V2 256 ix) w4 from ea);have SX:=xh (show aT w4 5 1 (.slice V2 256 ix) (64*4) (dI ((d.now.drop (64*k)).take (64*4)))from by
    have hn:=HNX.o 3;rw[show 64*(3+1)=64*4 from rfl,<-Gx]at hn;rw[hn,cP];exact S2)
   have OX:=xh (O.o.trans (ow.aI O.o.size (λg hg=>ar O2.o.size (F.o g hg))));have OBX:=xh (OB.o.trans (ow.aI OB.o.size F.o));have FX:=xh (show ∀g∈ai (.slice V2 256 ix),w2.heap.size<=g from λg hg=>(fr g hg).elim (F.o g) (λh=>ar OB.o.size h))
   have IX:=xh (show(Instr.index 244 (.agg #[.int .i64 (k:Int),.int .i64 ((k:Int)+1),.int .i64 ((k:Int)+2),.int .i64 ((k:Int)+3)]) (.int .i64 3)).run prog wr=.ok (.int .i64 ((k:Int)+3)) wr from Ew (k:Int) ((k:Int)+1) ((k:Int)+2) ((k:Int)+3) wr 3 _ rfl);clear hr ea S2 ow fr S hU Gx;go_wp2_with fail;rw[IX.o];go_wp2_with fail;refine SI.o.mono ?_;rintro e wz ⟨rfl,rfl⟩;go_wp2_with fail;rw[EA.o];go_wp2_with fail;go_roundw
   case rel=>exact⟨4,by omega,by first|rfl|simp,SX.o,OX,OBX,FX⟩
   case measure=>first|decide|simp[intOf]
  .have ST:=xh (yu (P:=prog) S 150 9 underlying150 underlying5 underlying9);rw[show 64*4=256 from rfl,HL.o]at ST;obtain⟨VA,vc,rfl⟩:=au S;have B3:=xh (B2.o.below OB.o y2);clear S;go_wp2_with fail;rw[ST.o];go_wp2_with fail;refine(KG.o _).mono ?_;rintro e w5 ⟨rfl,nC⟩;obtain⟨P,hP⟩:∃P,(jL l).1=P:=⟨_,rfl⟩;obtain⟨er,vz⟩:∃er,(jL l).2=er:=⟨_,rfl⟩;have GP:=xh (And.intro hP vz);rw[hP,vz];clear hP vz;obtain⟨pid,pep,pkd,ps⟩:=P
   have O6:=xh (ae (aB O.o nC) (.cells #[.int .i64 pid,.int .i64 pep,.int .i64 pkd,.string ⟨ps.toArray⟩] 162));have B6:=xh ((B3.o.below nC B3.o.lt).alloc (.cells #[.int .i64 pid,.int .i64 pep,.int .i64 pkd,.string ⟨ps.toArray⟩] 162));have P6:=xh (aJ.new w5 162 #[.int .i64 pid,.int .i64 pep,.int .i64 pkd,.string ⟨ps.toArray⟩]);clear nC B3;unfold PG.val jn;dsimp only;have z0:=B6.o.frozen 0 (by simp);have z1:=B6.o.frozen 1 (by simp)
   have z2:=B6.o.frozen 2 (by simp);have z3:=B6.o.frozen 3 (by simp);have c0:=B6.o.ab (i:=0) rfl;have c1:=B6.o.ab (i:=1) rfl;have c2:=B6.o.ab (i:=2) rfl;have c3:=B6.o.ab (i:=3) rfl;have p0:=P6.o.ab (i:=0) rfl;have p1:=P6.o.ab (i:=1) rfl;have p2:=P6.o.ab (i:=2) rfl;have p3:=P6.o.ab (i:=3) rfl;have ZB:=xh (kh B6.o rfl 0 0 0 ⟨#[]⟩);have ZO:=xh (fA O6.o (ak _) 0 0 0 ⟨#[]⟩)
   have YB:=xh (kh B6.o rfl pid pep pkd ⟨ps.toArray⟩);have YO:=xh (fA O6.o (ak _) pid pep pkd ⟨ps.toArray⟩)
   by_cases vz:er=0
   .subst vz
    by_cases hpi:pid=id
    .have hq:(pid != (id:Int))=false:=by rw[bne_eq_false_iff_eq];exact hpi
     have RES:=xh (show(if(jL l).2≠0 then(PG.zero,(jL l).2)else if(jL l).1.id≠(id:Int)then(PG.zero,14)else((jL l).1,0))=(⟨pid,pep,pkd,ps⟩,0)from by
      rw[GP.o.1,GP.o.2];simp[hpi])
     clear hpi;go_wp2_with fail;exact bodyPost_ret (dY rfl rfl YB.o) rfl ⟨by rw[HR.o.trans RES.o];rfl,YO.o⟩
    .have hq:(pid != (id:Int))=true:=by rw[bne_iff_ne];exact hpi
     have RES:=xh (show(if(jL l).2≠0 then(PG.zero,(jL l).2)else if(jL l).1.id≠(id:Int)then(PG.zero,14)else((jL l).1,0))=(PG.zero,14)from by
      rw[GP.o.1,GP.o.2];simp[hpi])
     clear hpi;go_wp2_with fail;exact bodyPost_ret (dY rfl rfl ZB.o) rfl ⟨by rw[HR.o.trans RES.o];rfl,ZO.o⟩
   .have hq:(er != 0)=true:=by rw[bne_iff_ne];exact vz
    have RES:=xh (show(if(jL l).2≠0 then(PG.zero,(jL l).2)else if(jL l).1.id≠(id:Int)then(PG.zero,14)else((jL l).1,0))=(PG.zero,er)from by
     rw[GP.o.1,GP.o.2,if_pos vz])
    clear vz;go_wp2_with fail;exact bodyPost_ret (dY rfl rfl ZB.o) rfl ⟨by rw[HR.o.trans RES.o];rfl,ZO.o⟩
theorem Pv(hd:aZ w L n d)(id:Int):
  Calls prog 139 #[dp L.b,.int .i64 id] w λe w'=>e=.returned (.tuple #[(bu d n id).1.val,.int .i64 (bu d n id).2])/\Below w.heap.size w w':=by
 by_cases h0:id<0
 .have:bu d n id=(.zero,3):=by unfold bu;rw[if_pos (.inl h0)]
  rw[this];exact Ps L.b id h0
 .by_cases h1:(cB n:Int)<=id
  .have:bu d n id=(.zero,3):=by unfold bu;rw[if_pos (.inr h1)]
   rw[this];exact Pt hd id (by omega) h1
  .obtain⟨a,rfl⟩:=eT (show 0<=id by omega)
   cases Jt:d.down
   .exact SH hd a (by omega) Jt
   .have:bu d n a=(.zero,13):=by unfold bu;rw[if_neg (by omega),if_pos Jt]
    rw[this];exact J5 hd a (by omega) Jt
end Pg
namespace Pg
open Go.RowKit Pk Dk
variable{d:D}{n k:Nat}
theorem Ez(N:Nat)(h:N<18446744073709551616):pG (vr N)=N:=by
 have e:vr N=[UInt8.ofNat (N / 72057594037927936),UInt8.ofNat (N / 281474976710656),UInt8.ofNat (N / 1099511627776),UInt8.ofNat (N / 4294967296),UInt8.ofNat (N / 16777216),UInt8.ofNat (N / 65536),UInt8.ofNat (N / 256),UInt8.ofNat (N / 1)]:=rfl;rw[e];simp only[pG,yH,JL,je];omega
theorem Cu(n:Int)(h0:0<=n)(h1:n<=9223372036854775807):(pG (fE n):Int)-9223372036854775808=n:=by
 unfold fE;rw[Ez _ (by omega)];omega
theorem beN_kd(N:Nat)(h:N<=2147483647):pG ((vr N).drop 4)=N:=by
 rw[Sq];simp only[pG,yH,JL,je];omega
theorem ub{α}(a b:List α)(n:Nat)(h:a.length=n):(a++b).take n=a:=by rw[lT (by omega),cy (by omega)]
theorem uc{α}(a b:List α)(n:Nat)(h:a.length=n):(a++b).drop n=b:=by rw[<-h];exact sj
theorem Cv(id ep kd:Int)(s:List UInt8)(h:s.length<=232):eP (lk id ep kd s) 252=fE id++(fE ep++((vr kd.toNat).drop 4++eP s 232)):=by
 rw[<-Sr id ep kd s h];simp only[cr]
theorem Pw{id ep kd:Int}{s:List UInt8}(fu:JZ id ep kd=true)(hid:id<=9223372036854775807)(hs:s.length<=232):
  jL (kD id ep kd s)=(⟨id,ep,kd,eP s 232⟩,0):=by
 have hb:=(oI id ep kd).1 fu;have x6:(eP (lk id ep kd s) 252).length=252:=by
  have:(lk id ep kd s).length=20+s.length:=by unfold lk;simp[fW,oK];omega
  unfold eP;rw[aU,ez];omega
 have hd4:(kD id ep kd s).drop 4=eP (lk id ep kd s) 252:=uc _ _ 4 rfl;have ht4:(kD id ep kd s).take 4=jy.jl (jy.k8 (eP (lk id ep kd s) 252)):=ub _ _ 4 rfl;have hlen:(kD id ep kd s).length=256:=by
  unfold kD jy.bH;rw[aU,x6];rfl
 have f4:((vr kd.toNat).drop 4).length=4:=by rw[cO,oK]
 have e1:(kD id ep kd s).drop 12=fE ep++((vr kd.toNat).drop 4++eP s 232):=by
  rw[show 12=4+8 from rfl,<-iK,hd4,Cv _ _ _ _ hs];exact uc _ _ 8 (fW _)
 have e2:(kD id ep kd s).drop 20=(vr kd.toNat).drop 4++eP s 232:=by
  rw[show 20=12+8 from rfl,<-iK,e1];exact uc _ _ 8 (fW _)
 have e3:(kD id ep kd s).drop 24=eP s 232:=by
  rw[show 24=20+4 from rfl,<-iK,e2];exact uc _ _ 4 f4
 have hdec:lL (kD id ep kd s)=⟨id,ep,kd,eP s 232⟩:=by
  unfold lL;rw[e1,e2,e3,hd4,Cv _ _ _ _ hs,ub _ _ 8 (fW _),ub _ _ 8 (fW _),ub _ _ 4 f4,Cu id hb.1 hid,Cu ep hb.2.1 (by omega),beN_kd _ (by omega)]
  congr 1
  omega
 unfold jL;rw[if_neg (by rw[hlen];simp),hd4,ht4,if_neg (by simp),hdec];simp only[fu,if_true]
theorem Cw(d:D):d.cN.1.now=d.now:=by
 unfold D.cN
 split
 .rfl
 .split<;>rfl
theorem wZ(d:D)(h:d.bt=0):d.cN.2=0/\d.cN.1.bt=0/\d.cN.1.down=d.down:=by
 unfold D.cN;rw[if_pos h];exact⟨rfl,h,rfl⟩
theorem yZ(d:D)(i:Nat):(d.iz i).bt=d.bt/\(d.iz i).down=d.down:=by unfold D.iz;split<;>exact⟨rfl,rfl⟩
theorem iP(hd:d.down=false)(ha:d.bt=0)(hk:k<n)(s:List UInt8):(d.aD n k s).2=0/\(d.aD n k s).1.down=false/\(d.aD n k s).1.bt=0:=by
 have h0:d.jM n k=0:=by rw[Ey d n k hk];simp[hd]
 unfold D.aD;rw[if_pos h0];have h1:(d.dM (k:Int).toNat s).bt=0:=((yZ d _).1).trans ha;have h2:(d.dM (k:Int).toNat s).down=false:=((yZ d _).2).trans hd;obtain⟨c1,c2,c3⟩:=wZ _ h1;exact⟨c1,c3.trans h2,c2⟩
theorem Ns{d:D}{n k:Nat}(b:List UInt8)(hd:d.down=false)(ha:d.bt=0):∀i,k+i<=n->(w4 d n k b i).2=0/\(w4 d n k b i).1.down=false/\(w4 d n k b i).1.bt=0
 |0,_=>⟨rfl,hd,ha⟩
 |i+1,hi=>by
  obtain⟨h1,h2,h3⟩:=Ns (n:=n) (k:=k) b hd ha i (by omega);rw[Sz d n k b i h1,show(k:Int)+(i:Int)=((k+i:Nat):Int) by omega];exact iP h2 h3 (by omega) _
theorem vA(c:List UInt8)(h:c.length=64):ki c=c:=by
 unfold ki;rw[h,fy,Eh,iJ,cy (by omega)]
theorem qU(fu:d.Ok n)(k:Nat)(hk:k<n)(s:List UInt8)(he:(d.aD n k s).2=0)(j:Nat)(hj:j<n):sec (d.aD n k s).1.now j=if k=j then ki s else sec d.now j:=by
 unfold D.aD at he ⊢
 by_cases h0:d.jM n k=0
 .rw[if_pos h0,Cw];show sec (gv d.now (k:Int).toNat (ki s)) j=_;rw[show((k:Nat):Int).toNat=k from by omega];exact Nk fu.now hk (kk s) hj
 .rw[if_neg h0]at he;exact absurd he h0
theorem J6(fu:d.Ok n)(b:List UInt8)(hb:b.length=256):∀i,i<=4->k+i<=n->(w4 d n k b i).2=0->∀j,j<n->sec (w4 d n k b i).1.now j=if k<=j/\j<k+i then(b.drop (64*(j-k))).take 64 else sec d.now j
 |0,_,_,_,j,_=>by rw[if_neg (by omega)];rfl
 |i+1,hi,BC,he,j,hj=>by
  have h1:(w4 d n k b i).2=0:=by
   by_cases h:(w4 d n k b i).2=0
   .exact h
   .rw[Nr d n k b i (i+1) h (by omega)]at he;exact absurd he h
  have ih:=J6 fu b hb i (by omega) (by omega) h1 j hj;rw[Sz d n k b i h1]at he ⊢;rw[show(k:Int)+(i:Int)=((k+i:Nat):Int) by omega]at he ⊢;rw[qU (yX fu k b i) (k+i) (by omega) _ he j hj]
  by_cases Px:k+i=j
  .rw[if_pos Px,if_pos (by omega),vA _ (by rw[bm,cO];omega)]
   congr 3;omega
  .rw[if_neg Px,ih]
   by_cases hr:k<=j/\j<k+i
   .rw[if_pos hr,if_pos (by omega)]
   .rw[if_neg hr,if_neg (by omega)]
theorem l6(F:List UInt8)(k:Nat):(F.drop (64*k)).take 256=sec F k++sec F (k+1)++sec F (k+2)++sec F (k+3):=by
 have h0:=pT F k 0;have h1:=pT F k 1;have h2:=pT F k 2;have h3:=pT F k 3;simp only[tT,jb,cW,iw]at h0;rw[show(256:Nat)=64*(3+1)from rfl,h3,h2,h1,h0]
theorem chunks(b:List UInt8)(hb:b.length=256):(b.drop (64*0)).take 64++(b.drop (64*1)).take 64++(b.drop (64*2)).take 64++(b.drop (64*3)).take 64=b:=by
 have:=l6 b 0;rw[tT,D0,cy (by omega)]at this;exact this.symm
theorem ED(fu:d.Ok n)(id:Nat)(b:List UInt8)(hb:b.length=256)(hid:id<cB n)(he:(w4 d n (2+4*id) b 4).2=0):
  ((w4 d n (2+4*id) b 4).1.now.drop (64*(2+4*id))).take 256=b:=by
 have hk:2+4*id+3<n:=by unfold cB at hid;omega
 have hw:=J6 fu b hb 4 (by omega) (by omega) he;rw[l6,hw _ (by omega),hw _ (by omega),hw _ (by omega),hw _ (by omega),if_pos (by omega),if_pos (by omega),if_pos (by omega),if_pos (by omega)];have:=chunks b hb;rw[show 2+4*id-(2+4*id)=0 by omega,show 2+4*id+1-(2+4*id)=1 by omega,show 2+4*id+2-(2+4*id)=2 by omega,show 2+4*id+3-(2+4*id)=3 by omega];exact this
theorem EE(fu:d.Ok n)(id jd:Nat)(b:List UInt8)(hb:b.length=256)(hid:id<cB n)(hjd:jd<cB n)(ff:id≠jd)(he:(w4 d n (2+4*id) b 4).2=0):
  ((w4 d n (2+4*id) b 4).1.now.drop (64*(2+4*jd))).take 256=(d.now.drop (64*(2+4*jd))).take 256:=by
 have hk:2+4*id+3<n:=by unfold cB at hid;omega
 have hk2:2+4*jd+3<n:=by unfold cB at hjd;omega
 have hw:=J6 fu b hb 4 (by omega) (by omega) he;rw[l6,hw _ (by omega),hw _ (by omega),hw _ (by omega),hw _ (by omega),l6,if_neg (by omega),if_neg (by omega),if_neg (by omega),if_neg (by omega)]
theorem y5{id:Nat}{b:List UInt8}(hid:id<cB n)(hd:d.down=false)(hb:(d.now.drop (64*(2+4*id))).take 256=b):
  bu d n id=if(jL b).2≠0 then(.zero,(jL b).2)else if(jL b).1.id≠(id:Int)then(.zero,14)else((jL b).1,0):=by
 unfold bu;rw[if_neg (by omega),if_neg (by simp[hd]),show((id:Nat):Int).toNat=id from by omega,hb]
theorem mz(fu:d.Ok n)(hd:d.down=false)(ha:d.bt=0)(id:Nat)(ep kd:Int)(s:List UInt8)(hid:id<cB n)(hp:JZ id ep kd=true)(hs:s.length<=232):
  (bs d n id ep kd s).2=0/\(bs d n id ep kd s).1.down=false/\(bs d n id ep kd s).1.bt=0/\bu (bs d n id ep kd s).1 n id=(⟨id,ep,kd,eP s 232⟩,0)/\
   ∀jd,jd<cB n->jd≠id->bu (bs d n id ep kd s).1 n jd=bu d n jd:=by
 have sD:dM id ep kd s=(kD id ep kd s,0):=by unfold dM;rw[if_pos hp,if_neg (by omega)]
 have hlen:=(yY (by rw[sD])).1;rw[sD]at hlen;have hw:bs d n id ep kd s=w4 d n (2+4*id) (kD id ep kd s) 4:=by
  unfold bs;rw[sD,if_neg (by simp),if_neg (by omega)];rfl
 have hk:2+4*id+4<=n:=by unfold cB at hid;omega
 have hid2:((id:Nat):Int)<=9223372036854775807:=by have:=fu.small;unfold cB at hid;omega
 obtain⟨f1,f2,f3⟩:=Ns (k:=2+4*id) (kD id ep kd s) hd ha 4 hk;rw[hw];refine⟨f1,f2,f3,?_,λjd hjd ff=>?_⟩
 .rw[y5 hid f2 (ED fu id _ hlen hid f1),Pw hp hid2 hs];simp
 .rw[y5 hjd f2 rfl,y5 hjd hd rfl,EE fu id jd _ hlen hid hjd (Ne.symm ff) f1]
end Pg
namespace Fm
open Go.RowKit
def ints(l:List Int):List Value:=l.map (Value.int .i64)
@[simp] theorem ints_length(l:List Int):(ints l).length=l.length:=by simp[ints]
theorem SJ(l:List Int)(k:Nat)(h:k<l.length):(ints l)[k]?=some (.int .i64 l[k]):=by simp[ints,h]
theorem ints_set(l:List Int)(k:Nat)(x:Int):(ints l).set k (.int .i64 x)=ints (l.set k x):=by simp[ints]
theorem GC(l m:List Int):ints (l++m)=ints l++ints m:=by simp[ints]
def BF(l:List Int)(i:Int):Bool:=decide (0<=i/\i<l.length)
def dD(l:List Int)(i:Int):List Int×Int:=
 if BF l i then(if l.getD i.toNat 0=2 then(l.set i.toNat 0,0)else if l.getD i.toNat 0=1 then(l.set i.toNat 3,0)else(l,9))else(l,3)
def de(l:List Int)(k:Int):Nat:=l.findIdx (· ==k)
def cR(l:List Int):List Int×Int×Int:=
 if de l 0<l.length then(l.set (de l 0) 2,de l 0,0)else(l,0,11)
def mY(leaving fresh k:Int):Int:=if k=3 then leaving else if k=2 then fresh else k
def jo(leaving fresh:Int)(l:List Int):List Int:=l.map (mY leaving fresh)
def gY(l:List Int)(k:Int):Nat->List Int
 |0=>[]
 |n+1=>gY l k n++if l.getD n 0=k then [(n:Int)]else []
def gw(l:List Int)(k:Int):List Int:=gY l k l.length
theorem BH(l:List Int)(k:Int)(n:Nat):(gY l k n).length<=n:=by
 induction n with
 |zero=>simp[gY]
 |succ n ih=>simp only[gY,aU];split<;>simp<;>omega
theorem ud(a b:Int)(l:List Int):(jo a b l).length=l.length:=by simp[jo]
def jN(a b:Int)(l:List Int)(k:Nat):List Int:=(l.take k).map (mY a b)++l.drop k
theorem BJ(a b:Int)(l:List Int)(k:Nat):(jN a b l k).length=l.length:=by
 simp[jN];omega
theorem GF(a b:Int)(l:List Int):jN a b l 0=l:=by simp[jN]
theorem J7(a b:Int)(l:List Int):jN a b l l.length=jo a b l:=by simp[jN,jo]
theorem y6(a b:Int)(l:List Int)(k:Nat)(h:k<l.length):(jN a b l k).getD k 0=l.getD k 0:=by
 unfold jN;simp only[List.getD];rw[dW (by simp;omega)];simp[oC (Nat.le_of_lt h)]
theorem xd(a b:Int)(l:List Int)(k:Nat)(h:k<l.length):jN a b l (k+1)=(jN a b l k).set k (mY a b (l.getD k 0)):=by
 have hk:l.getD k 0=l[k]:=by simp[List.getD,aL h]
 have h0:k-((l.take k).map (mY a b)).length=0:=by simp;omega
 rw[jN,jN,hk,gC h,dA,cr,qN _ _ (by simp;omega),h0,sg h];rfl
theorem SO(l:List Int)(k:Nat):l.set k (l.getD k 0)=l:=by
 rcases eR k l.length with h|h
 .simp only[List.getD,aL h,jc];exact List.set_getElem_self h
 .exact List.set_eq_of_length_le h
theorem GG(a b:Int)(l:List Int)(k:Nat)(h:k<l.length)(h3:mY a b (l.getD k 0)=l.getD k 0):jN a b l (k+1)=jN a b l k:=by
 rw[xd a b l k h,h3,<-y6 a b l k h,SO]
variable{w:World}{b g:Nat}{l:List Int}
theorem GH:(prog.info? 3).map (λi=>(i.zero,i.size,i.bytes))=some (some (.int .i64 0),1,8):=by kernel_rfl
structure dE(w:World)(b g:Nat)(l:List Int):Prop where
 hb:aJ w b 218 #[.slice (some ⟨g,0,none⟩) l.length l.length]
 hg:aJ w g 3 (ints l).toArray
 hl:l.length<=1024
def mp(b:Nat):Value:= .pointer (some ⟨b,0,none⟩)
section
variable{w w':World}{b g:Nat}{l:List Int}{S:List Nat}
theorem dE.ne(h:dE w b g l):b≠g:=h.hb.k7 h.hg (by decide)
theorem dE.c0(h:dE w b g l):w.cell? ⟨b,0,none⟩=some (.slice (some ⟨g,0,none⟩) l.length l.length):=h.hb.ab rfl
theorem dE.ck(h:dE w b g l)(k:Nat)(hk:k<l.length):w.cell? ⟨g,k,none⟩=some (.int .i64 (l.getD k 0)):=by
 refine h.hg.ab ?_;rw[dj,SJ _ _ hk];simp[List.getD,aL hk]
theorem dE.fk(h:dE w b g l)(k:Nat)(hk:k<l.length):w.frozen? ⟨g,k,none⟩=false:=h.hg.frozen k (by simpa using hk)
theorem dE.only(h:dE w b g l)(ho:ag S w w')(h1:b∉S)(h2:g∉S):dE w' b g l:=⟨h.hb.only ho h1,h.hg.only ho h2,h.hl⟩
theorem dE.below(h:dE w b g l)(hb:Below w.heap.size w w'):dE w' b g l:=h.only (S:=[]) (.aj hb) (by simp) (by simp)
theorem dE.drew(h:dE w b g l):dE w.drew b g l:=⟨h.hb,h.hg,h.hl⟩
theorem dE.bE(h:dE w b g l)(k:Nat)(x:Int):dE (w.setCell ⟨g,k,none⟩ (.int .i64 x)) b g (l.set k x):=by
 refine⟨?_,?_,by simpa using h.hl⟩
 .rw[bW];exact h.hb.aW (by exact h.ne) _
 .have:=h.hg.bE k (.int .i64 x);rw[tN,ints_set]at this;exact this
end
theorem Eu(n:Nat)(w:World)(h:n<=1024):
  Calls prog 81 #[.int .i64 n] w λe w'=> ∃b g,e=.returned (.tuple #[mp b,.int .i64 0])/\dE w' b g (List.replicate n 0)/\Below w.heap.size w w'/\w.heap.size<=b/\w.heap.size<=g:=by
 have hmk:∀w':World,(Instr.makeSlice 60 (.int .i64 n) (.int .i64 n)).run prog w'= .ok (.slice (some ⟨w'.heap.size,0,none⟩) n n) (w'.alloc (.cells (madeCells #[.int .i64 0] n) 3)):=λw'=>by
  obtain⟨i0,hi,kx,ju,kg⟩:=info_parts GH;have h:=run_make (P:=prog) w' 60 3 i0 (.int .i64 0) underlying60 hi kx .i64 .i64 n n (by omega) (jI _) (by rw[kg];omega) (by omega);simpa [ju,Value.cells]using h
 go_enter func81,ntmps81
 go_wp2
 go_ret2;refine⟨w.heap.size+1,w.heap.size,rfl,⟨?_,?_,by simpa using h⟩,((Below.refl _ _).alloc (ak _) _).alloc (by simp) _,by omega,by omega⟩
 .have:=aJ.new (w.alloc (.cells (madeCells #[.int .i64 0] n) 3)) 218 #[.slice (some ⟨w.heap.size,0,none⟩) n n];simpa using this
 .have:=(aJ.new w 3 (madeCells #[.int .i64 0] n)).alloc (.cells #[.slice (some ⟨w.heap.size,0,none⟩) n n] 218);rw[ie]at this;rw[ie];simpa [ints]using this
theorem Nt(m:dE w b g l)(i:Int)(h:BF l i=true):
  Calls prog 183 #[mp b,.int .i64 i] w λe w'=>e=.returned (.int .i64 0)/\w=w':=by
 simp only[BF,decide_eq_true_eq]at h;obtain⟨h0,h1⟩:=h;have hl:=m.hl;have c0:=m.c0;unfold mp;go_enter func183,ntmps183
 go_wp2
 go_ret;exact⟨rfl,rfl⟩
theorem at_no(m:dE w b g l)(i:Int)(h:BF l i=false):
  Calls prog 183 #[mp b,.int .i64 i] w λe w'=>e=.returned (.int .i64 3)/\w=w':=by
 simp only[BF,decide_eq_false_iff_not]at h;have h':i<0\/(¬i<0/\(l.length:Int)<=i):=by omega
 clear h;have hl:=m.hl;have c0:=m.c0;unfold mp
 rcases h' with h|⟨h,h1⟩
 all_goals
  go_enter func183,ntmps183
  go_wp2
  go_ret;exact⟨rfl,rfl⟩
variable{w:World}{b g:Nat}{l:List Int}
theorem qV(m:dE w b g l)(i:Int):
  Calls prog 153 #[mp b,.int .i64 i] w λe w'=>e=.returned (.int .i64 (dD l i).2)/\dE w' b g (dD l i).1/\ag [g] w w':=by
 by_cases pH:BF l i=true
 .have y7:=pH;simp only[BF,decide_eq_true_eq]at y7;obtain⟨h0,h1⟩:=y7;obtain⟨k,rfl⟩:=eT h0;have hk:k<l.length:=by omega
  have c0:=m.c0;have ck:=m.ck k hk;have fk:=m.fk k hk
  by_cases hz:l.getD k 0=2
  .have hu:dD l k=(l.set k 0,0):=by simp only[dD,pH,if_true,gG,hz]
   rw[hu];rw[hz]at ck;have HU:=xh (m.bE k 0);clear hz hu;unfold mp;go_enter func153,ntmps153;go_wp2_with fail;refine(Nt m k pH).mono ?_;rintro e w1 ⟨rfl,rfl⟩;go_wp2_with fail;go_ret;exact⟨rfl,HU.o,(ag.refl _ _).setCell (by simp) _⟩
  .by_cases ju:l.getD k 0=1
   .have hu:dD l k=(l.set k 3,0):=by simp only[dD,pH,if_true,gG,ju];rfl
    rw[hu];rw[ju]at ck;have HU:=xh (m.bE k 3);clear hz ju hu;unfold mp;go_enter func153,ntmps153;go_wp2_with fail;refine(Nt m k pH).mono ?_;rintro e w1 ⟨rfl,rfl⟩;go_wp2_with fail;go_ret;exact⟨rfl,HU.o,(ag.refl _ _).setCell (by simp) _⟩
   .have hu:dD l k=(l,9):=by simp only[dD,pH,if_true,gG,if_neg hz,if_neg ju]
    rw[hu];clear hu fk;generalize l.getD k 0=x at ck hz ju;unfold mp;go_enter func153,ntmps153;go_wp2_with fail;refine(Nt m k pH).mono ?_;rintro e w1 ⟨rfl,rfl⟩;go_wp2_with fail;go_ret;exact⟨rfl,m,ag.refl _ _⟩
 .have y7:BF l i=false:=by simpa using pH
  have hu:dD l i=(l,3):=by simp only[dD,y7];rfl
  rw[hu];clear hu;unfold mp;go_enter func153,ntmps153;go_wp2_with fail;refine(at_no m i y7).mono ?_;rintro e w1 ⟨rfl,rfl⟩;go_wp2_with fail;go_ret;exact⟨rfl,m,ag.refl _ _⟩
theorem GI(l:List Int)(k:Int)(n:Nat)(hn:n<=l.length)(h:∀j,j<n->l.getD j 0≠k):n<=de l k:=by
 rcases eR (de l k) n with dH|Jn
 .have h1:l.findIdx (· ==k)<l.length:=by unfold de at dH;omega
  have h2:=pL (w:=h1);have h3:=h _ dH;unfold de at h3;simp only[List.getD,aL h1,jc]at h3;exact absurd (by simpa using h2) h3
 .exact Jn
theorem SR(l:List Int)(k:Int)(n:Nat)(hn:n<l.length)(h:∀j,j<n->l.getD j 0≠k)(hk:l.getD n 0=k):de l k=n:=by
 have h1:=GI l k n (by omega) h;have h2:de l k<=n:=by
  unfold de;have hg:l[n]=k:=by simpa [List.getD,aL hn]using hk
  rcases eR n (l.findIdx (· ==k))with dH|Jn
  .have:=Ed dH;simp[hg]at this
  .exact Jn
 omega
theorem J8(l:List Int)(k:Int)(h:∀j,j<l.length->l.getD j 0≠k):de l k=l.length:=by
 have:=GI l k l.length (ak _) h;have h2:de l k<=l.length:=oo;omega
def kJ(l:List Int)(k:Int):Int:=if de l k<l.length then(de l k:Int)else -1
theorem qW(g n c:Nat)(l:List Int)(hn:n=l.length)(hm:n<=1000000)(k:Int)(w:World)(hc:∀j,j<l.length->w.cell? ⟨g,j,none⟩=some (.int .i64 (l.getD j 0))):
  Calls prog 165 #[.slice (some ⟨g,0,none⟩) n c,.int .i64 k] w λe w'=>e=.returned (.int .i64 (kJ l k))/\w=w':=by
 subst hn;go_enter func165,ntmps165
 go_wp2
 go_loop [5,8] (λ_ i=> ∃j:Nat,j<=l.length/\i=.int .i64 j/\Hid (∀x,x<j->l.getD x 0≠k)) (λ_ i=>l.length-(intOf i).toNat)
 case atStart=>exact⟨0,by omega,rfl,xh (by omega)⟩
 case round=>
  obtain⟨j,hj,rfl,H⟩:=hrel
  by_cases h:j<l.length
  .have cj:=hc j h;clear hc
   by_cases hk:l.getD j 0=k
   .have he:kJ l k=j:=by unfold kJ;rw[SR l k j h H.o hk,if_pos h]
    have HE:=xh he;clear he;rw[hk]at cj;clear hk
    go_wp2
    go_ret;exact⟨by rw[HE.o];rfl,rfl⟩
   .have H2:=xh (show ∀x,x<j+1->l.getD x 0≠k from λx hx=>by
     rcases eR x j with h1|h1
     .exact H.o x h1
     .have:x=j:=by omega
      subst this;exact hk)
    have hk':(k==l.getD j 0)=false:=by simp;exact λe=>hk e.symm
    clear hk;generalize l.getD j 0=y at *
    go_wp2
    go_round
    case rel=>exact⟨j+1,by omega,by go_num,H2⟩
    case measure=>simp[intOf];omega
  .have hjl:j=l.length:=by omega
   have he:kJ l k= -1:=by
    unfold kJ;rw[J8 l k (by rw[<-hjl];exact H.o),if_neg (by omega)]
   have HE:=xh he;clear he hjl hc
   go_wp2
   go_ret;exact⟨by rw[HE.o];rfl,rfl⟩
theorem Cx(m:dE w b g l)(k:Int):
  Calls prog 195 #[mp b,.int .i64 k] w λe w'=>e=.returned (.int .i64 (kJ l k))/\w=w':=by
 have hl:=m.hl;have c0:=m.c0;have HC:=xh m.ck;unfold mp;go_enter func195,ntmps195;go_wp2_with fail;refine(qW g _ _ l rfl (by omega) k _ HC.o).mono ?_;rintro e w1 ⟨rfl,rfl⟩;go_wp2_with fail;go_ret;exact⟨rfl,rfl⟩
theorem tX(m:dE w b g l):
  Calls prog 151 #[mp b] w λe w'=>e=.returned (.tuple #[.int .i64 (cR l).2.1,.int .i64 (cR l).2.2])/\dE w' b g (cR l).1/\ag [g] w w':=by
 have hl:=m.hl;have c0:=m.c0
 by_cases h:de l 0<l.length
 .have hu:cR l=(l.set (de l 0) 2,(de l 0:Int),0):=by rw[cR,if_pos h]
  have hi:kJ l 0=de l 0:=by rw[kJ,if_pos h]
  rw[hu];have K:=xh (hi▸Cx m 0);have ck:=m.ck _ h;have fk:=m.fk _ h;have HU:=xh (m.bE (de l 0) 2);clear hu hi;generalize de l 0=k at *;unfold mp at *;go_enter func151,ntmps151;go_wp2_with fail;refine(K.o).mono ?_;rintro e w1 ⟨rfl,rfl⟩;go_wp2_with fail;go_ret2;exact⟨rfl,HU.o,(ag.refl _ _).setCell (by simp) _⟩
 .have hu:cR l=(l,0,11):=by rw[cR,if_neg h]
  have hi:kJ l 0= -1:=by rw[kJ,if_neg h]
  rw[hu];have K:=xh (hi▸Cx m 0);clear hu hi h;unfold mp at *;go_enter func151,ntmps151;go_wp2_with fail;refine(K.o).mono ?_;rintro e w1 ⟨rfl,rfl⟩;go_wp2_with fail;go_ret2;exact⟨rfl,m,ag.refl _ _⟩
variable{w:World}{b g:Nat}{l:List Int}
theorem GJ(m:dE w b g l)(a c:Int):
  Calls prog 200 #[mp b,.int .i64 a,.int .i64 c] w λe w'=>e=.returned (.bool true)/\dE w' b g (jo a c l)/\ag [g] w w':=by
 have hl:=m.hl;have c0:=m.c0;have HM:=xh m;clear m;unfold mp;go_enter func200,ntmps200
 go_wp2
 go_loopw [7,8,16] (λ_ _ i wr=> ∃k:Nat,k<=l.length/\i=.int .i64 k/\dE wr b g (jN a c l k)/\ag [g] w wr) (λ_ _ i _=>l.length-(intOf i).toNat)
 case atStart=>exact⟨0,by omega,rfl,by rw[GF];exact HM.o,ag.refl _ _⟩
 case round=>
  obtain⟨k,hk,rfl,M,O⟩:=hrel;have HL:=xh (BJ a c l k)
  by_cases h:k<l.length
  .have c0r:wr.cell? ⟨b,0,none⟩=some (.slice (some ⟨g,0,none⟩) l.length l.length):=by rw[<-HL.o];exact M.c0
   have ck:=M.ck k (by rw[HL.o];exact h);have fk:=M.fk k (by rw[HL.o];exact h);rw[y6 a c l k h]at ck;have HS:=xh (xd a c l k h);have HE:=xh (GG a c l k h);have M3:=xh (M.bE k)
   by_cases h3:l.getD k 0=3
   .rw[h3]at ck;have HX:=xh h3;clear h3
    go_wp2
    go_roundw
    case rel=>exact⟨k+1,by omega,by go_num,by rw[HS.o,HX.o];exact M3.o a,O.setCell (by simp) _⟩
    case measure=>simp[intOf];omega
   .by_cases h2:l.getD k 0=2
    .rw[h2]at ck;have HX:=xh h2;clear h3 h2
     go_wp2
     go_roundw
     case rel=>exact⟨k+1,by omega,by go_num,by rw[HS.o,HX.o];exact M3.o c,O.setCell (by simp) _⟩
     case measure=>simp[intOf];omega
    .have HX:=xh (HE.o (by rw[mY,if_neg h3,if_neg h2]));generalize l.getD k 0=x at *
     go_wp2
     go_roundw
     case rel=>exact⟨k+1,by omega,by go_num,by rw[HX.o];exact M,O⟩
     case measure=>simp[intOf];omega
  .have jx:k=l.length:=by omega
   have HX:=xh jx;clear jx
   go_wp2
   go_ret;exact⟨rfl,by rw[<-J7,<-HX.o];exact M,O⟩
theorem Ka(m:dE w b g l):
  Calls prog 154 #[mp b] w λe w'=>e=.returned (.bool true)/\dE w' b g (jo 0 1 l)/\ag [g] w w':=by
 have K:=xh (GJ m);unfold mp at *;go_enter func154,ntmps154;go_wp2_with fail;refine(K.o _ _).mono ?_;rintro e w1 ⟨rfl,m1,o1⟩;go_wp2_with fail;go_ret;exact⟨rfl,m1,o1⟩
theorem Py(m:dE w b g l):
  Calls prog 155 #[mp b] w λe w'=>e=.returned (.bool true)/\dE w' b g (jo 1 0 l)/\ag [g] w w':=by
 have K:=xh (GJ m);unfold mp at *;go_enter func155,ntmps155;go_wp2_with fail;refine(K.o _ _).mono ?_;rintro e w1 ⟨rfl,m1,o1⟩;go_wp2_with fail;go_ret;exact⟨rfl,m1,o1⟩
theorem Kb{v:Value}{n:Nat}(S:aT w 3 1 v n (ints l))(x:Int)(hn:n<=1000000):
  ∃v' w',(Builtin.append_ #[60,60] 60 #[v,.slice (some ⟨w.heap.size,0,none⟩) 1 1]).run prog (w.alloc (.cells #[.int .i64 x] 3))= .ok v' w'/\aT w' 3 1 v' (n+1) (ints (l++[x]))/\ag (ai v) w w'/\(∀g∈ai v',g∈ai v\/w.heap.size<=g):=by
 obtain⟨i0,hi,kx,ju,kg⟩:=info_parts GH;obtain⟨v',w',h1,h2,h3,h4⟩:=dk (P:=prog) (S.alloc (.cells #[.int .i64 x] 3)) 60 60 i0 (.int .i64 0) 8 underlying60 hi kx ju kg rfl (by omega)
  ⟨w.heap.size,0,none⟩ 1 1 [.int .i64 x] rfl (bq (l:=[.int .i64 x]) (aJ.new w 3 #[.int .i64 x]) 0 _ (by simp)) (by simp[Value.oneCell']) (by unfold maxLen;omega) (by omega)
 refine⟨v',w',h1,by rw[GC];exact h2,((ag.refl _ _).alloc _).aO h3 (λx hx _=>hx),λg hg=>(h4 g hg).imp id (λh=>by simp at h;omega)⟩
theorem kl(m:dE w b g l)(kind:Int):
  Calls prog 194 #[mp b,.int .i64 kind] w λe w'=> ∃v,e=.returned v/\aT w' 3 1 v (gw l kind).length (ints (gw l kind))/\Below w.heap.size w w'/\(∀x∈ai v,w.heap.size<=x):=by
 have hl:=m.hl;have c0:=m.c0;have HM:=xh m;clear m;unfold mp;go_enter func194,ntmps194
 go_wp2
 go_loopw [5,6,7,16] (λv _ _ i wr=> ∃k:Nat,k<=l.length/\i=.int .i64 k/\aT wr 3 1 v (gY l kind k).length (ints (gY l kind k))/\Below w.heap.size w wr/\(∀x∈ai v,w.heap.size<=x)) (λ_ _ _ i _=>l.length-(intOf i).toNat)
 case atStart=>exact⟨0,by omega,rfl,aT.nil _ _ _,Below.refl _ _,by simp[ai]⟩
 case round=>
  obtain⟨k,hk,rfl,S,O,F⟩:=hrel;have F:=xh F;have dH:=BH l kind k
  by_cases h:k<l.length
  .have M:=HM.o.below O;have ck:=M.ck k h
   by_cases h3:l.getD k 0=kind
   .have HX:=xh (show gY l kind (k+1)=gY l kind k++[(k:Int)] by simp only[gY,if_pos h3]);rw[h3]at ck;clear h3 M;obtain⟨v',w',ea,S',O',F'⟩:=Kb S k (by omega);have F':=xh F';have EA:=xh ea;clear ea;generalize gY l kind k=L at *;go_wp2_with (at_builtin;refine wpList_append_run rfl _ _ _ rfl _ _ rfl rfl EA.o ?_);go_roundw
    case rel=>exact⟨k+1,by omega,by go_num,by rw[HX.o];simpa using S',O.trans (O'.aI O.size F.o),λx hx=>(F'.o x hx).elim (F.o x) (λh=>ar O.size h)⟩
    case measure=>simp[intOf];omega
   .have HX:=xh (show gY l kind (k+1)=gY l kind k by simp only[gY,if_neg h3];simp);generalize l.getD k 0=x at *;clear M;have ff:(x==kind)=false:=by simpa using h3
    go_wp2
    go_roundw
    case rel=>exact⟨k+1,by omega,by go_num,by rw[HX.o];exact S,O,F.o⟩
    case measure=>simp[intOf];omega
  .have jx:k=l.length:=by omega
   have HX:=xh jx;clear jx
   go_wp2
   go_ret;refine⟨_,rfl,?_,O,F.o⟩;unfold gw;rw[<-HX.o];exact S
variable{w:World}{l:List Int}{b g:Nat}
theorem slc_len{e:TypeId}{size n:Nat}{v:Value}{l:List Value}(S:aT w e size v n l):∃A c,v=.slice A n c:=by
 rcases S.2 with⟨rfl,rfl⟩|⟨g,cap,rest,rfl,_⟩
 .exact⟨none,0,rfl⟩
 .exact⟨_,cap,rfl⟩
theorem SU(m:dE w b g l):
  Calls prog 150 #[mp b] w λe w'=>e=.returned (.int .i64 (gw l 0).length)/\Below w.heap.size w w':=by
 have K:=xh (kl m 0);unfold mp at *;go_enter func150,ntmps150;go_wp2_with fail;refine(K.o).mono ?_;rintro e w1 ⟨v,rfl,S,hb,-⟩;obtain⟨A,c,rfl⟩:=slc_len S;go_wp2_with fail;go_ret;exact⟨rfl,hb⟩
def ct(l:List Int)(i:Int):Bool:=BF l i && (l.getD i.toNat 0==2)
theorem qX(m:dE w b g l)(i:Int):
  Calls prog 192 #[mp b,.int .i64 i] w λe w'=>e=.returned (.bool (ct l i))/\w=w':=by
 by_cases pH:BF l i=true
 .have y7:=pH;simp only[BF,decide_eq_true_eq]at y7;obtain⟨h0,h1⟩:=y7;obtain⟨k,rfl⟩:=eT h0;have hk:k<l.length:=by omega
  have c0:=m.c0;have ck:=m.ck k hk;have HF:=xh (show ct l k=(l.getD k 0==2) by simp only[ct,pH,Jw,gG]);generalize l.getD k 0=x at ck HF;unfold mp;go_enter func192,ntmps192;go_wp2_with fail;refine(Nt m k pH).mono ?_;rintro e w1 ⟨rfl,rfl⟩;go_wp2_with fail;go_ret;exact⟨by rw[HF.o];rfl,rfl⟩
 .have y7:BF l i=false:=by simpa using pH
  have HF:=xh (show ct l i=false by simp only[ct,y7,Bool.false_and]);unfold mp;go_enter func192,ntmps192;go_wp2_with fail;refine(at_no m i y7).mono ?_;rintro e w1 ⟨rfl,rfl⟩;go_wp2_with fail;go_ret;exact⟨by rw[HF.o];rfl,rfl⟩
end Fm
end Go.Proofs.YtmonobkginiajaaGreat
