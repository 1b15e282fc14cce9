/- packed. -/
import Derived.Test.YtmonobkginiajaaGreatC1
import Derived.Deep.QuietTactic
import Derived.BigQuiet
set_option linter.all false
set_option maxRecDepth 100000
set_option maxHeartbeats 8000000
namespace Go.Proofs.YtmonobkginiajaaGreat.Dk
open Go.RowKit
variable{F c:List UInt8}{o n i:Nat}
def sec(F:List UInt8)(i:Nat):List UInt8:=(F.drop (64*i)).take 64
def lay(F:List UInt8)(o:Nat)(c:List UInt8):List UInt8:=F.take o++c++F.drop (o+c.length)
def et(F:List UInt8)(i:Nat)(c:List UInt8):List UInt8:=lay F (64*i) c
theorem fy(h:o+c.length<=F.length):(lay F o c).length=F.length:=by
 simp[lay];omega
theorem nQ(F:List UInt8)(o:Nat)(c:List UInt8):putAt (cf F) o (cf c)=cf (lay F o c):=by
 simp[putAt,lay,cf]
theorem jA(hF:F.length=64*n)(hi:i<n):(sec F i).length=64:=by
 simp[sec];omega
theorem kM(h:o+c.length<=F.length)(j:Nat):(lay F o c)[j]?=if o<=j/\j<o+c.length then c[j-o]? else F[j]?:=by
 unfold lay
 by_cases h1:j<o
 .rw[if_neg (by omega),cN,bx (by simp;omega),oS h1]
 .have e:(F.take o).length=o:=by simp;omega
  by_cases h2:j<o+c.length
  .rw[if_pos ⟨by omega,h2⟩,cN,dF (by omega),e,bx (by omega)]
  .rw[if_neg (by omega),dF (by simp;omega),gF]
   congr 1
   simp;omega
theorem rf(F:List UInt8)(i j:Nat):(sec F i)[j]?=if j<64 then F[64*i+j]? else none:=by
 unfold sec
 by_cases h:j<64
 .rw[if_pos h,oS h,gF]
 .rw[if_neg h,fo (by simp;omega)]
theorem Cx{k:Nat}(hF:F.length=64*n)(hi:i<n)(hc:c.length=64)(_hk:k<n):sec (et F i c) k=if i=k then c else sec F k:=by
 apply jZ;intro j;rw[rf];unfold et;rw[kM (by omega)]
 by_cases hj:j<64
 .rw[if_pos hj,hc]
  by_cases e:i=k
  .subst e;rw[if_pos ⟨by omega,by omega⟩,if_pos rfl]
   congr 1;omega
  .rw[if_neg (by omega),if_neg e,rf,if_pos hj]
 .rw[if_neg hj]
  split
  .rw[fo (by omega)]
  .rw[rf,if_neg hj]
def hX(s:List UInt8):List UInt8:=s.take 64++List.replicate (64-s.length) 0
theorem gM(s:List UInt8):(hX s).length=64:=by simp[hX];omega
theorem Dz(F s:List UInt8)(hF:F.length=64*n)(hi:i<n):lay (et F i (List.replicate 64 0)) (64*i) (s.take 64)=et F i (hX s):=by
 have h0:(et F i (List.replicate 64 0)).length=F.length:=fy (by simp;omega);apply jZ;intro j;have hz:=gM s;rw[kM (by rw[h0];simp;omega)];unfold et;rw[kM (by simp;omega),kM (by omega),hz];simp only[cE,eM]
 by_cases h1:64*i<=j/\j<64*i+min 64 s.length
 .rw[if_pos h1,if_pos (by omega),hX,bx (by simp;omega)]
 .rw[if_neg h1]
  by_cases h2:64*i<=j/\j<64*i+64
  .rw[if_pos h2,if_pos h2,hX,dF (by simp;omega),vH,vH];simp only[cE];rw[if_pos (by omega),if_pos (by omega)]
  .rw[if_neg h2,if_neg h2]
structure D where
 now:List UInt8
 bM:List UInt8
 loose:List Bool
 aT:Int
 calls:Int
 down:Bool
structure D.Ok(d:D)(n:Nat):Prop where
 now:d.now.length=64*n
 bM:d.bM.length=64*n
 loose:d.loose.length=n
 small:n<=4096
 aT:0<=d.aT
 calls:0<=d.calls
def D.eu(d:D):Int:=if d.down then 13 else 0
def D.gh(d:D)(n:Nat)(i:Int):Int:=if d.down then 13 else if 0<=i/\i<n then 0 else 3
def D.bE(d:D):D×Int:=
 if d.aT=0 then({d with calls:=d.calls+1},0)
 else if d.aT=1 then({d with calls:=d.calls+1,aT:=0,down:=true},13)
 else({d with calls:=d.calls+1,aT:=d.aT-1,down:=false},0)
def D.fc(d:D)(i:Nat):D:=if d.loose.getD i false then d else {d with bM:=et d.bM i (sec d.now i),loose:=d.loose.set i true}
def D.ct(d:D)(i:Nat)(s:List UInt8):D:={d.fc i with now:=et d.now i (hX s)}
def D.ar(d:D)(n:Nat)(i:Int)(s:List UInt8):D×Int:=
 if d.gh n i=0 then(d.ct i.toNat s).bE else(d,d.gh n i)
def D.eD(d:D):D×Int:=
 if d.down then(d,13)else if d.bE.2=0 then({d.bE.1 with loose:=List.replicate d.loose.length false},0)else d.bE
theorem D.Ok.count{d:D}(h:d.Ok n):(d.bE).1.Ok n:=by
 have:=h.calls;have:=h.aT;unfold D.bE
 split
 .exact⟨h.now,h.bM,h.loose,h.small,h.aT,by show 0<=d.calls+1;omega⟩
 .split
  .exact⟨h.now,h.bM,h.loose,h.small,gE 0,by show 0<=d.calls+1;omega⟩
  .exact⟨h.now,h.bM,h.loose,h.small,by show 0<=d.aT-1;omega,by show 0<=d.calls+1;omega⟩
theorem D.Ok.xL{d:D}(h:d.Ok n)(i:Nat)(hi:i<n):(d.fc i).Ok n:=by
 unfold D.fc
 split
 .exact h
 .have e:=jA h.now hi;have:=h.bM;exact⟨h.now,by show(et d.bM i (sec d.now i)).length=_;unfold et;rw[fy (by omega)];exact h.bM,by show(d.loose.set i true).length=_;rw[bH];exact h.loose,h.small,h.aT,h.calls⟩
theorem D.Gf(d:D)(i:Nat):(d.fc i).now=d.now:=by unfold D.fc;split<;>rfl
theorem D.Ok.put{d:D}(h:d.Ok n)(i:Nat)(s:List UInt8)(hi:i<n):(d.ct i s).Ok n:=by
 have hk:=h.xL i hi;have e:=gM s;have:=h.now;exact⟨by show(et d.now i (hX s)).length=_;unfold et;rw[fy (by omega)];exact h.now,hk.bM,hk.loose,hk.small,hk.aT,hk.calls⟩
theorem D.Ok.write{d:D}(h:d.Ok n)(i:Int)(s:List UInt8):(d.ar n i s).1.Ok n:=by
 unfold D.ar
 split
 .rename_i ha;have hi:0<=i/\i<n:=by
   unfold D.gh at ha
   split at ha
   .cases ha
   .split at ha
    .assumption
    .cases ha
  exact(h.put i.toNat s (by omega)).count
 .exact h
theorem D.Ok.sync{d:D}(h:d.Ok n):(d.eD).1.Ok n:=by
 have hc:=h.count;unfold D.eD
 split
 .exact h
 .split
  .exact⟨hc.now,hc.bM,by show(List.replicate d.loose.length false).length=n;simp;exact h.loose,hc.small,hc.aT,hc.calls⟩
  .exact hc
variable{w:World}{g:Nat}{t:TypeId}{l:List Value}
noncomputable def Cy(w:World)(v:Value):Result Value:=(Instr.loadAt 152 v).run Tryz.prog w
noncomputable def Cz(w:World)(a v:Value):Result Unit:=(Instr.storeAt 152 a v).run Tryz.prog w
theorem vZ(ρ:Operand->Value)(dst:Option Tmp)(x:Operand)(t:TypeId)(p:String)(af:Array Edge)(g:Option (Nat×Bool))(w:World):
  (execOp ρ {dst:=dst,op:= .load 152 x,type:=t,pos:=p,after:=af,guard:=g}).run Tryz.prog w=(Cy w (ρ x)).andThen λv w'=> .ok (.value v) w':=by
 simp only[execOp,Sem.run_bind,Sem.run_pure];rfl
theorem we(ρ:Operand->Value)(dst:Option Tmp)(x y:Operand)(t:TypeId)(p:String)(af:Array Edge)(g:Option (Nat×Bool))(w:World):
  (execOp ρ {dst:=dst,op:= .store 152 x y,type:=t,pos:=p,after:=af,guard:=g}).run Tryz.prog w=(Cz w (ρ x) (ρ y)).andThen λ_ w'=> .ok .skip w':=by
 simp only[execOp,Sem.run_bind,Sem.run_pure];rfl
noncomputable def lA:Value:= .agg (cf (List.replicate 64 0)).toArray
theorem pf(ρ:Operand->Value)(dst:Option Tmp)(t:TypeId)(p:String)(af:Array Edge)(g:Option (Nat×Bool))(w:World):
  (execOp ρ {dst:=dst,op:= .build 152 #[],type:=t,pos:=p,after:=af,guard:=g}).run Tryz.prog w=.ok (.value lA) w:=by kernel_rfl
theorem xM:Tryz.prog.underlying 152=some (.array 64 5):=Tryz.underlying152
theorem rN:(Tryz.prog.info? 152).map (·.size)=some 64:=by kernel_rfl
theorem Gg(B:aD w g t l.toArray)(o:Nat)(c:List Value)(hc:c.length=64)(h:∀j v,c[j]?=some v->l[o+j]?=some v):
  Cy w (.pointer (some ⟨g,o,none⟩))= .ok (.agg c.toArray) w:=by
 have hl:=run_loadCells_list (P:=Tryz.prog) w ⟨g,o,none⟩ c (aZ B o c h);rw[hc]at hl;unfold Cy Instr.loadAt;obtain⟨i,hi,hs⟩:∃i,Tryz.prog.info? 152=some i/\i.size=64:=by
  have:=rN
  cases hq:Tryz.prog.info? 152 with
  |none=>rw[hq]at this;cases this
  |some i=>rw[hq]at this;exact⟨i,rfl,by simpa using this⟩
 simp[Instr.sureAddr,loadVar,isAgg,run_underlying xM,sizeOf,typeInfo,hi,hs,hl,Result.andThen]
theorem xN(B:aD w g t l.toArray)(o:Nat)(c:List Value)(hc:c.length=64)(ho:o+64<=l.length)(h1:∀v∈c,v.oneCell'=true):
  ∃w',Cz w (.pointer (some ⟨g,o,none⟩)) (.agg c.toArray)= .ok () w'/\aD w' g t (putAt l o c).toArray/\ag [g] w w':=by
 have oN:=run_storeCells_cells (P:=Tryz.prog) g o c 0 w (λj hj=>by rw[B.cell];simp;omega) (λj hj=>B.frozen _ (by simp;omega)) h1;refine⟨w.setCells g o c,?_,B.setCells c o (by omega),(ag.refl _ _).setCells c o (by simp)⟩;unfold Cz Instr.storeAt;obtain⟨i,hi,hs⟩:∃i,Tryz.prog.info? 152=some i/\i.size=64:=by
  have:=rN
  cases hq:Tryz.prog.info? 152 with
  |none=>rw[hq]at this;cases this
  |some i=>rw[hq]at this;exact⟨i,rfl,by simpa using this⟩
 simp only[iE]at oN;simp[Instr.sureAddr,storeVar,Value.cells,sizeOf,typeInfo,hi,hs,hc,oN,Result.andThen]
variable{w:World}{n:Nat}{d:D}
structure Loc where
 b:Nat
 gN:Nat
 gO:Nat
 gL:Nat
def Loc.fp(L:Loc):List Nat:=[L.b,L.gN,L.gO,L.gL]
def k8(l:List Bool):List Value:=l.map Value.bool
@[simp] theorem bools_length(l:List Bool):(k8 l).length=l.length:=by simp[k8]
theorem uv(l:List Bool)(k:Nat)(h:k<l.length):(k8 l)[k]?=some (.bool (l.getD k false)):=by
 simp[k8,List.getD,h]
theorem DB(l:List Bool)(k:Nat)(x:Bool):(k8 l).set k (.bool x)=k8 (l.set k x):=by simp[k8]
def fields(L:Loc)(n:Nat)(d:D):Array Value:=
 #[.slice (some ⟨L.gN,0,none⟩) n n,.slice (some ⟨L.gO,0,none⟩) n n,.slice (some ⟨L.gL,0,none⟩) n n,.int .i64 d.aT,.int .i64 d.calls,.bool d.down]
structure aG(w:World)(L:Loc)(n:Nat)(d:D):Prop where
 hb:aD w L.b 149 (fields L n d)
 hN:aD w L.gN 152 (cf d.now).toArray
 hO:aD w L.gO 152 (cf d.bM).toArray
 hL:aD w L.gL 4 (k8 d.loose).toArray
 ne:L.gN≠L.gO
 ok:d.Ok n
section
variable{w w':World}{L:Loc}{n:Nat}{d:D}{S:List Nat}
theorem aG.only(h:aG w L n d)(ho:ag S w w')(hd:∀x∈L.fp,x∉S):aG w' L n d:=
 ⟨h.hb.only ho (hd _ (by simp[Loc.fp])),h.hN.only ho (hd _ (by simp[Loc.fp])),h.hO.only ho (hd _ (by simp[Loc.fp])),h.hL.only ho (hd _ (by simp[Loc.fp])),h.ne,h.ok⟩
theorem aG.below(h:aG w L n d)(hb:Below w.heap.size w w'):aG w' L n d:=h.only (S:=[]) (.aj hb) (by simp)
theorem aG.drew(h:aG w L n d):aG w.drew L n d:=⟨h.hb,h.hN,h.hO,h.hL,h.ne,h.ok⟩
theorem aG.lt(h:aG w L n d):∀x∈L.fp,x<w.heap.size:=by
 intro x hx;simp only[Loc.fp,aC,gH,or_false]at hx
 rcases hx with rfl|rfl|rfl|rfl
 .exact h.hb.lt
 .exact h.hN.lt
 .exact h.hO.lt
 .exact h.hL.lt
theorem aG.bN(h:aG w L n d):L.b≠L.gN:=h.hb.mB h.hN (by decide)
theorem aG.bO(h:aG w L n d):L.b≠L.gO:=h.hb.mB h.hO (by decide)
theorem aG.bL(h:aG w L n d):L.b≠L.gL:=h.hb.mB h.hL (by decide)
theorem aG.LN(h:aG w L n d):L.gL≠L.gN:=h.hL.mB h.hN (by decide)
theorem aG.LO(h:aG w L n d):L.gL≠L.gO:=h.hL.mB h.hO (by decide)
theorem aG.f0(h:aG w L n d):w.cell? ⟨L.b,0,none⟩=some (.slice (some ⟨L.gN,0,none⟩) n n):=h.hb.ab rfl
theorem aG.f1(h:aG w L n d):w.cell? ⟨L.b,1,none⟩=some (.slice (some ⟨L.gO,0,none⟩) n n):=h.hb.ab rfl
theorem aG.f2(h:aG w L n d):w.cell? ⟨L.b,2,none⟩=some (.slice (some ⟨L.gL,0,none⟩) n n):=h.hb.ab rfl
theorem aG.f3(h:aG w L n d):w.cell? ⟨L.b,3,none⟩=some (.int .i64 d.aT):=h.hb.ab rfl
theorem aG.f4(h:aG w L n d):w.cell? ⟨L.b,4,none⟩=some (.int .i64 d.calls):=h.hb.ab rfl
theorem aG.f5(h:aG w L n d):w.cell? ⟨L.b,5,none⟩=some (.bool d.down):=h.hb.ab rfl
theorem aG.fz(h:aG w L n d)(i:Nat)(hi:i<6):w.frozen? ⟨L.b,i,none⟩=false:=h.hb.frozen i (by simpa [fields]using hi)
theorem aG.head(h:aG w L n d){d':D}(B:aD w' L.b 149 (fields L n d'))(ho:ag [L.b] w w')(e1:d'.now=d.now)(e2:d'.bM=d.bM)(e3:d'.loose=d.loose)(ef:d'.Ok n):aG w' L n d':=by
 refine⟨B,?_,?_,?_,h.ne,ef⟩
 .rw[e1];exact h.hN.only ho (by simp;exact λe=>h.bN e.symm)
 .rw[e2];exact h.hO.only ho (by simp;exact λe=>h.bO e.symm)
 .rw[e3];exact h.hL.only ho (by simp;exact λe=>h.bL e.symm)
end
def dp(b:Nat):Value:= .pointer (some ⟨b,0,none⟩)
theorem gl{L:Loc}(h:aG w L n d):
  Calls Tryz.prog 77 #[dp L.b] w λe w'=>e=.returned (.int .i64 d.eu)/\w=w':=by
 have f5:=h.f5;unfold dp D.eu;clear h
 cases hd:d.down
 all_goals
  rw[hd]at f5;go_enter Tryz.func77,Tryz.ntmps77
  go_wp2
  go_ret;exact⟨rfl,rfl⟩
theorem lB{L:Loc}(h:aG w L n d)(i:Int):
  Calls Tryz.prog 134 #[dp L.b,.int .i64 i] w λe w'=>e=.returned (.int .i64 (d.gh n i))/\w=w':=by
 have f0:=h.f0;have hn:=h.ok.small;have K:=xh (gl h);unfold D.eu at K;unfold D.gh;unfold dp at *;clear h
 cases hd:d.down
 .rw[hd]at K;simp only[lq,if_false]at K ⊢
  by_cases hi:0<=i/\i<n
  .rw[if_pos hi];obtain⟨h0,h1⟩:=hi;go_enter Tryz.func134,Tryz.ntmps134;go_wp2_with fail;refine K.o.mono ?_;rintro e w1 ⟨rfl,rfl⟩;go_wp2_with fail;go_ret;exact⟨rfl,rfl⟩
  .rw[if_neg hi];have kF:i<0\/(¬i<0/\(n:Int)<=i):=by omega
   clear hi
   rcases kF with h1|⟨h1,h2⟩
   all_goals
    go_enter Tryz.func134,Tryz.ntmps134;go_wp2_with fail;refine K.o.mono ?_;rintro e w1 ⟨rfl,rfl⟩;go_wp2_with fail;go_ret;exact⟨rfl,rfl⟩
 .rw[hd]at K;simp only[if_true]at K ⊢;go_enter Tryz.func134,Tryz.ntmps134;go_wp2_with fail;refine K.o.mono ?_;rintro e w1 ⟨rfl,rfl⟩;go_wp2_with fail;go_ret;exact⟨rfl,rfl⟩
theorem mV{L:Loc}(h:aG w L n d)(hc:d.calls<=4000000000000000000)(ha:d.aT<=9223372036854775807):
  Calls Tryz.prog 159 #[dp L.b] w λe w'=>e=.returned (.int .i64 d.bE.2)/\aG w' L n d.bE.1/\ag [L.b] w w':=by
 have f3:=h.f3;have f4:=h.f4;have z3:=h.fz 3 (by omega);have z4:=h.fz 4 (by omega);have z5:=h.fz 5 (by omega);have f5:=h.f5;have a0:=h.ok.aT;have c0:=h.ok.calls;have H:=xh h;have B:=xh h.hb;have OKC:=xh h.ok.count;clear h
 by_cases h0:d.aT=0
 .have e1:d.bE=({d with calls:=d.calls+1},0):=by unfold D.bE;rw[if_pos h0]
  rw[e1];rw[e1]at OKC;rw[h0]at f3;have HA:=xh h0;clear h0 e1;unfold dp;go_enter Tryz.func159,Tryz.ntmps159;go_wp2_with fail;go_ret;have o1:ag [L.b] w (w.setCell ⟨L.b,4,none⟩ (.int .i64 (d.calls+1))):=(ag.refl _ _).setCell (by simp) _;exact⟨rfl,H.o.head (B.o.bu 4 _) o1 rfl rfl rfl OKC.o,o1⟩
 .by_cases h1:d.aT=1
  .have e1:d.bE=({d with calls:=d.calls+1,aT:=0,down:=true},13):=by unfold D.bE;rw[if_neg h0,if_pos h1]
   rw[e1];rw[e1]at OKC;rw[h1]at f3;have o1:ag [L.b] w (((w.setCell ⟨L.b,4,none⟩ (.int .i64 (d.calls+1))).setCell ⟨L.b,3,none⟩ (.int .i64 0)).setCell ⟨L.b,5,none⟩ (.bool true)):=(((ag.refl _ _).setCell (by simp) _).setCell (by simp) _).setCell (by simp) _;have D1:=H.o.head (d':={d with calls:=d.calls+1,aT:=0,down:=true}) ((((B.o.bu 4 (.int .i64 (d.calls+1))).bu 3 (.int .i64 0)).bu 5 (.bool true))) o1 rfl rfl rfl OKC.o;have K:=xh (gl D1);have D1:=xh D1
   have O1:=xh o1;clear h0 h1 e1 o1;unfold D.eu dp at *;go_enter Tryz.func159,Tryz.ntmps159;go_wp2_with fail;refine K.o.mono ?_;rintro e w1 ⟨rfl,rfl⟩;go_wp2_with fail;go_ret;exact⟨rfl,D1.o,O1.o⟩
  .have e1:d.bE=({d with calls:=d.calls+1,aT:=d.aT-1,down:=false},0):=by unfold D.bE;rw[if_neg h0,if_neg h1]
   rw[e1];rw[e1]at OKC;have o1:ag [L.b] w (((w.setCell ⟨L.b,4,none⟩ (.int .i64 (d.calls+1))).setCell ⟨L.b,3,none⟩ (.int .i64 (d.aT-1))).setCell ⟨L.b,5,none⟩ (.bool false)):=(((ag.refl _ _).setCell (by simp) _).setCell (by simp) _).setCell (by simp) _;have D1:=H.o.head (d':={d with calls:=d.calls+1,aT:=d.aT-1,down:=false}) ((((B.o.bu 4 (.int .i64 (d.calls+1))).bu 3 (.int .i64 (d.aT-1))).bu 5 (.bool false))) o1 rfl rfl rfl OKC.o;have K:=xh (gl D1)
   have D1:=xh D1;have O1:=xh o1;have t0:(d.aT==0)=false:=by simpa using h0
   have t1:(d.aT-1==0)=false:=by simp;omega
   clear e1 o1;unfold D.eu dp at *;go_enter Tryz.func159,Tryz.ntmps159;go_wp2_with fail;refine K.o.mono ?_;rintro e w1 ⟨rfl,rfl⟩;go_wp2_with fail;go_ret;exact⟨rfl,D1.o,O1.o⟩
end Go.Proofs.YtmonobkginiajaaGreat.Dk
namespace Go.Proofs.YtmonobkginiajaaGreat.Dk
open Go.RowKit
attribute [local go_sem ↓] vZ we pf
variable{k n:Nat}{w:World}{L:Loc}
theorem uw{F:List UInt8}(j:Nat)(v:Value)(h:(cf (sec F k))[j]?=some v):(cf F)[k*64+j]?=some v:=by
 rw[q8,rf]at h;rw[q8]
 split at h
 .rw[show k*64+j=64*k+j by omega];exact h
 .simp at h
def D.aA(d:D)(n:Nat)(i:Int):List UInt8×Int:=if d.gh n i=0 then(sec d.now i.toNat,0)else([],d.gh n i)
theorem Gh{d:D}{i:Int}(h:d.gh n i=0):0<=i/\i<n:=by
 unfold D.gh at h
 split at h
 .cases h
 .split at h
  .assumption
  .cases h
theorem ux(d:D)(n:Nat)(i:Int):d.gh n i=0\/((d.gh n i==0)=false):=by
 by_cases h:d.gh n i=0
 .exact .inl h
 .exact .inr (by simpa using h)
theorem kh{d:D}(h:aG w L n d)(i:Int):
  Calls Tryz.prog 79 #[dp L.b,.int .i64 i] w λe w'=>e=.returned (.tuple #[.string ⟨(d.aA n i).1.toArray⟩,.int .i64 (d.aA n i).2])/\w=w':=by
 have K:=xh (lB h i);have hn:=h.ok.small
 rcases ux d n i with ha|ha
 .have hi:=Gh ha;have e1:d.aA n i=(sec d.now i.toNat,0):=by unfold D.aA;rw[if_pos ha]
  rw[e1];rw[ha]at K;obtain⟨k,rfl⟩:=dn hi.1;have hk:k<n:=by omega
  have f0:=h.f0;have oN:=λ(a b:Nat) (ha:64=a) (hb:k*64=b)=>(bs (P:=Tryz.prog) w 150 9 5 Tryz.underlying150 Tryz.underlying5 Tryz.underlying9 ⟨L.gN,b,none⟩ a a (sec d.now k) (ha▸jA h.ok.now hk) (hb▸aZ h.hN (k*64) _ uw));have HS:=xh (oN 64 (k*64) rfl rfl);clear oN e1 ha hi h;unfold dp at *;go_enter Tryz.func79,Tryz.ntmps79;go_wp2_with fail;refine K.o.mono ?_;rintro e w1 ⟨rfl,rfl⟩;go_wp2_with fail;rw[HS.o];go_wp2_with fail;go_ret2;exact⟨rfl,rfl⟩
 .have e1:d.aA n i=([],d.gh n i):=by unfold D.aA;rw[if_neg (by simpa using ha)]
  rw[e1];generalize d.gh n i=x at *;clear e1 h;unfold dp at *;go_enter Tryz.func79,Tryz.ntmps79;go_wp2_with fail;refine K.o.mono ?_;rintro e w1 ⟨rfl,rfl⟩;go_wp2_with fail;go_ret2;exact⟨rfl,rfl⟩
theorem DE(F:List UInt8)(s:ByteArray)(hF:F.length=64*n)(hk:k<n):
  putAt (putAt (cf F) (k*64) (cf (List.replicate 64 0))) (k*64) (cf (s.data.toList.take (Nat.min s.size 64)))=cf (et F k (hX s.data.toList)):=by
 rw[nQ,nQ,<-Dz F s.data.toList hF hk];have e:s.data.toList.take (Nat.min s.size 64)=s.data.toList.take 64:=by
  rcases Nat.le_total s.size 64 with h|h
  .rw[show Nat.min s.size 64=s.size from qV h,bJ (by simp),bJ (by simpa using h)]
  .rw[show Nat.min s.size 64=64 from Nat.min_eq_right h]
 rw[e,show k*64=64*k from Nat.mul_comm _ _];rfl
theorem kG:(Tryz.prog.info? 5).map (·.size)=some 1:=by kernel_rfl
theorem CA{d:D}(h:aG w L n d)(k:Nat)(hk:k<n)(s:ByteArray):
  ∃w1,Cz w (.pointer (some ⟨L.gN,k*64,none⟩)) lA=.ok () w1/\ag [L.gN] w w1/\
   ∃w2,(Builtin.copy_ #[150,9] 3 #[.slice (some ⟨L.gN,k*64,none⟩) 64 64,.string s]).run Tryz.prog w1=.ok (goInt (Nat.min s.size 64)) w2/\aG w2 L n {d with now:=et d.now k (hX s.data.toList)}/\ag [L.gN] w w2:=by
 have hlen:=h.ok.now;obtain⟨w1,e1,B1,o1⟩:=xN h.hN (k*64) (cf (List.replicate 64 0)) (by simp) (by simp;omega) (nL _);obtain⟨w2,e2,B2,o2⟩:=jQ (P:=Tryz.prog) B1 150 9 3 5 (k*64) 64 64 s (Nat.min s.size 64) Tryz.underlying150 kG rfl (by rw[gK (by simp;omega)];have hm:Nat.min s.size 64<=64:=Nat.min_le_right _ _;rw[fZ,hlen];omega);rw[DE _ _ hlen hk]at B2;have o:=o1.trans o2
 refine⟨w1,e1,o1,w2,e2,⟨h.hb.only o (by simp;exact h.bN),B2,h.hO.only o (by simp;exact λe=>h.ne e.symm),h.hL.only o (by simp;exact h.LN),h.ne,?_⟩,o⟩;have:=gM s.data.toList;exact⟨by show(et d.now k _).length=_;unfold et;rw[fy (by omega)];exact hlen,h.ok.bM,h.ok.loose,h.ok.small,h.ok.aT,h.ok.calls⟩
theorem Gj{w':World}{d:D}(h:aG w L n d)(o:ag [L.gN] w w'):w'.cell? ⟨L.b,0,none⟩=some (.slice (some ⟨L.gN,0,none⟩) n n):=
 (o.cell h.hb.lt (by simp;exact h.bN)).trans h.f0
theorem DF{d:D}(h:aG w L n d)(k:Nat)(hk:k<n)(s:ByteArray)(ha:d.gh n k=0)(hc:d.calls<=4000000000000000000)(hr:d.aT<=9223372036854775807)(hl:d.loose.getD k false=false):
  Calls Tryz.prog 103 #[dp L.b,.int .i64 k,.string s] w λe w'=>e=.returned (.int .i64 ((d.ct k s.data.toList).bE).2)/\aG w' L n ((d.ct k s.data.toList).bE).1/\ag L.fp w w':=by
 have K:=xh (lB h k);have hn:=h.ok.small;rw[ha]at K;have f0:=h.f0;have f1:=h.f1;have f2:=h.f2;have cl:w.cell? ⟨L.gL,k,none⟩=some (.bool false):=by
  rw[<-hl];refine h.hL.ab ?_;rw[cW,uv _ _ (by rw[h.ok.loose];exact hk)]
 have rO:d.fc k={d with bM:=et d.bM k (sec d.now k),loose:=d.loose.set k true}:=by unfold D.fc;rw[hl];rfl
 have mW:d.ct k s.data.toList={d.fc k with now:=et (d.fc k).now k (hX s.data.toList)}:=by unfold D.ct;rw[D.Gf]
 have DC:(d.fc k).calls=d.calls:=by rw[rO]
 have DA:(d.fc k).aT=d.aT:=by rw[rO]
 have ef:=h.ok.xL k hk;rw[mW];have hld:Cy w.drew (.pointer (some ⟨L.gN,k*64,none⟩))= .ok (.agg (cf (sec d.now k)).toArray) w.drew:=Gg h.hN.drew (k*64) _ (by rw[fZ,jA h.ok.now hk]) uw;obtain⟨w2,oN,B2,o2⟩:=xN h.hO.drew (k*64) (cf (sec d.now k)) (by rw[fZ,jA h.ok.now hk]) (by have:=h.ok.bM;simp;omega) (nL _);have cl2:w2.cell? ⟨L.gL,k,none⟩=some (.bool false):=(o2.cell (db cl) (by simp;exact h.LO)).trans cl
 have fl2:w2.frozen? ⟨L.gL,k,none⟩=false:=(o2.frozen (db cl) (by simp;exact h.LO)).trans (h.hL.frozen k (by simp;rw[h.ok.loose];exact hk));have o2':ag L.fp w w2:=⟨o2.os,o2.tape,o2.output,o2.size,λb hb hn=>o2.block b hb (by simp[Loc.fp]at hn ⊢;exact hn.2.2.1)⟩;have hD:aG (w2.setCell ⟨L.gL,k,none⟩ (.bool true)) L n (d.fc k):=by
  rw[rO]at ef ⊢;have B3:=((h.hL.drew.only o2 (by simp;exact h.LO)).bu k (.bool true));rw[nE,DB]at B3;rw[nQ]at B2;refine⟨(h.hb.drew.only o2 (by simp;exact h.bO)).aY (by exact h.bL) _,(h.hN.drew.only o2 (by simp;exact h.ne)).aY (by exact λe=>h.LN e.symm) _,?_,B3,h.ne,ef⟩;have:=B2.aY (p:=⟨L.gL,k,none⟩) (λe=>h.LO e.symm) (.bool true)
  rwa [show k*64=64*k from Nat.mul_comm _ _]at this
 have oD:ag L.fp w (w2.setCell ⟨L.gL,k,none⟩ (.bool true)):=o2'.setCell (by simp[Loc.fp]) _;clear rO mW ef ha B2 o2 o2' h;generalize d.fc k=d1 at *;unfold dp at *;go_enter Tryz.func103,Tryz.ntmps103;go_wp2_with fail;refine K.o.mono ?_;rintro e w1 ⟨rfl,rfl⟩;go_wp2_with fail
 go_region
 clear hld oN f0 f1 f2 cl cl2 fl2;generalize w2.setCell ⟨L.gL,k,none⟩ (.bool true)=w3 at *;have f0':=hD.f0;obtain⟨w4,st4,o4,w5,cp5,D5,o5⟩:=CA hD k hk s;have f04:=Gj hD o4;have CP:=xh cp5;have KC:=xh (mV D5 (by rw[DC];exact hc) (by rw[DA];exact hr));have HD:=xh D5;have O5:=xh (oD.trans (o5.mono (S':=L.fp) (by simp[Loc.fp])));clear hD oD cp5 D5 o4 o5 DC DA;unfold dp at KC;go_wp2_with fail;rw[CP.o];go_wp2_with fail;refine KC.o.mono ?_
 rintro e w6 ⟨rfl,D6,o6⟩;go_wp2_with fail;go_ret;exact⟨rfl,D6,O5.o.trans (o6.mono (by simp[Loc.fp]))⟩
theorem DG{d:D}(h:aG w L n d)(k:Nat)(hk:k<n)(s:ByteArray)(ha:d.gh n k=0)(hc:d.calls<=4000000000000000000)(hr:d.aT<=9223372036854775807)(hl:d.loose.getD k false=true):
  Calls Tryz.prog 103 #[dp L.b,.int .i64 k,.string s] w λe w'=>e=.returned (.int .i64 ((d.ct k s.data.toList).bE).2)/\aG w' L n ((d.ct k s.data.toList).bE).1/\ag L.fp w w':=by
 have K:=xh (lB h k);have hn:=h.ok.small;rw[ha]at K;have f0:=h.f0;have f1:=h.f1;have f2:=h.f2;have cl:w.cell? ⟨L.gL,k,none⟩=some (.bool true):=by
  rw[<-hl];refine h.hL.ab ?_;rw[cW,uv _ _ (by rw[h.ok.loose];exact hk)]
 have rO:d.fc k=d:=by unfold D.fc;rw[hl];rfl
 have mW:d.ct k s.data.toList={d with now:=et d.now k (hX s.data.toList)}:=by unfold D.ct;rw[rO]
 rw[mW];have hD:=h;have oD:ag L.fp w w:=ag.refl _ _;have DC:d.calls=d.calls:=rfl;have DA:d.aT=d.aT:=rfl;have HDC:=xh DC;clear rO mW ha h DC DA;unfold dp at *;have f0':=hD.f0;obtain⟨w4,st4,o4,w5,cp5,D5,o5⟩:=CA hD k hk s;have f04:=Gj hD o4;have CP:=xh cp5;have KC:=xh (mV D5 hc hr);have HD:=xh D5;have O5:=xh (oD.trans (o5.mono (S':=L.fp) (by simp[Loc.fp])));clear hD oD cp5 D5 o4 o5;unfold dp at KC;go_enter Tryz.func103,Tryz.ntmps103
 go_wp2_with fail;refine K.o.mono ?_;rintro e w1 ⟨rfl,rfl⟩;go_wp2_with fail;rw[CP.o];go_wp2_with fail;refine KC.o.mono ?_;rintro e w6 ⟨rfl,D6,o6⟩;go_wp2_with fail;go_ret;exact⟨rfl,D6,O5.o.trans (o6.mono (by simp[Loc.fp]))⟩
end Go.Proofs.YtmonobkginiajaaGreat.Dk
namespace Go.Proofs.YtmonobkginiajaaGreat.Dk
open Go.RowKit
variable{w:World}{L:Loc}{n:Nat}{d:D}
theorem jl(h:aG w L n d)(i:Int)(s:ByteArray)(hc:d.calls<=4000000000000000000)(hr:d.aT<=9223372036854775807):
  Calls Tryz.prog 103 #[dp L.b,.int .i64 i,.string s] w λe w'=>e=.returned (.int .i64 (d.ar n i s.data.toList).2)/\aG w' L n (d.ar n i s.data.toList).1/\ag L.fp w w':=by
 rcases ux d n i with ha|ha
 .have hi:=Gh ha;obtain⟨k,rfl⟩:=dn hi.1;have e1:d.ar n k s.data.toList=(d.ct k s.data.toList).bE:=by unfold D.ar;rw[if_pos ha];rfl
  rw[e1]
  cases hl:d.loose.getD k false
  .exact DF h k (by omega) s ha hc hr hl
  .exact DG h k (by omega) s ha hc hr hl
 .have e1:d.ar n i s.data.toList=(d,d.gh n i):=by unfold D.ar;rw[if_neg (by simpa using ha)]
  rw[e1];have K:=xh (lB h i);have H:=xh h;generalize d.gh n i=x at *;clear e1 h;unfold dp at *;go_enter Tryz.func103,Tryz.ntmps103;go_wp2_with fail;refine K.o.mono ?_;rintro e w1 ⟨rfl,rfl⟩;go_wp2_with fail;go_ret;exact⟨rfl,H.o,ag.refl _ _⟩
theorem ua(z:Value)(n:Nat):(Builtin.zeroCells #[z] n).toList=List.replicate n z:=by
 unfold Builtin.zeroCells;apply rB
 .simp
 .intro i h1 h2;simp[Nat.mod_one]
theorem DH(l c:List Value)(h:l.length=c.length):putAt l 0 c=c:=by
 simp[putAt,h]
theorem DI{P:Program}{g:Nat}{t T e:TypeId}{l:List Value}(B:aD w g t l.toArray)(ht:P.underlying T=some (.slice e)){z:Value}(hz:∀w,(zeroValue e).run P w=.ok z w)(h1:z.cells= #[z])(gW:z.oneCell'=true)(ty:TypeId)(n c:Nat)(hn:l.length=n):
  ∃w',(Builtin.clear_ #[T] ty #[.slice (some ⟨g,0,none⟩) n c]).run P w=.ok (.tuple #[]) w'/\aD w' g t (List.replicate n z).toArray/\ag [g] w w':=by
 rcases Nat.eq_zero_or_pos n with h0|h0
 .subst h0;have:l=[]:=mN hn;subst this;exact⟨w,by simp[Builtin.clear_,run_underlying ht],B,ag.refl _ _⟩
 .have oN:=run_storeCells_cells (P:=P) g 0 (List.replicate n z) 0 w (λj hj=>by rw[B.cell];simp at hj ⊢;omega) (λj hj=>B.frozen _ (by simp at hj ⊢;omega)) (by intro v hv;rw[(List.mem_replicate.1 hv).2];exact gW);refine⟨w.setCells g 0 (List.replicate n z),?_,?_,(ag.refl _ _).setCells _ 0 (by simp)⟩
  .obtain⟨m,rfl⟩:∃m,n=m+1:=⟨n-1,by omega⟩;simp only[iE]at oN;simp[Builtin.clear_,run_underlying ht,hz,h1,ua,oN,Result.andThen]
  .have:=B.setCells (List.replicate n z) 0 (by simp;omega)
   rwa [DH _ _ (by simp;omega)]at this
theorem Gk(h:aG w L n d)(hc:d.calls<=4000000000000000000)(hr:d.aT<=9223372036854775807):
  Calls Tryz.prog 104 #[dp L.b] w λe w'=>e=.returned (.int .i64 d.eD.2)/\aG w' L n d.eD.1/\ag L.fp w w':=by
 have K:=xh (gl h);have KC:=xh (mV h hc hr);have zF:=xh h.ok.sync;unfold D.eu at K
 cases hd:d.down
 .rw[hd]at K;simp only[lq,if_false]at K
  by_cases h0:d.bE.2=0
  .have e1:d.eD=({d.bE.1 with loose:=List.replicate d.loose.length false},0):=by
    unfold D.eD;rw[hd,if_neg (by simp),if_pos h0]
   have mG:=h.ok.loose;rw[mG]at e1;rw[e1];rw[e1]at zF;rw[h0]at KC;have Fw:d.bE.1.loose.length=n:=by
    have:=h.ok.count.loose;exact this
   clear e1 h0 hd h mG;generalize d.bE.1=d1 at *;unfold dp at *;go_enter Tryz.func104,Tryz.ntmps104;go_wp2_with fail;refine K.o.mono ?_;rintro e w1 ⟨rfl,rfl⟩;go_wp2_with fail;refine KC.o.mono ?_;rintro e w2 ⟨rfl,D2,o2⟩;have f2:=D2.f2;obtain⟨w3,ec,B3,o3⟩:=DI (P:=Tryz.prog) D2.hL Tryz.underlying65 (z:= .bool false) (λ_=>by kernel_rfl) rfl rfl 0 n n (by simpa using Fw);have EC:=xh ec;clear ec Fw;go_wp2_with fail;rw[EC.o];go_wp2_with fail;go_ret
   refine⟨rfl,⟨D2.hb.only o3 (by simp;exact D2.bL),D2.hN.only o3 (by simp;exact λe=>D2.LN e.symm),D2.hO.only o3 (by simp;exact λe=>D2.LO e.symm),?_,D2.ne,zF.o⟩,(o2.mono (by simp[Loc.fp])).trans (o3.mono (by simp[Loc.fp]))⟩;simpa [k8]using B3
  .have e1:d.eD=d.bE:=by
    unfold D.eD;rw[hd,if_neg (by simp),if_neg h0]
   rw[e1];have eG:(d.bE.2==0)=false:=by simpa using h0
   generalize d.bE=dd at *;clear e1 h0 hd h;obtain⟨d1,x⟩:=dd;simp only at eG KC;unfold dp at *;go_enter Tryz.func104,Tryz.ntmps104;go_wp2_with fail;refine K.o.mono ?_;rintro e w1 ⟨rfl,rfl⟩;go_wp2_with fail;refine KC.o.mono ?_;rintro e w2 ⟨rfl,D2,o2⟩;go_wp2_with fail;go_ret;exact⟨rfl,D2,o2.mono (by simp[Loc.fp])⟩
 .rw[hd]at K;simp only[if_true]at K;have e1:d.eD=(d,13):=by unfold D.eD;rw[hd,if_pos rfl]
  rw[e1];have H:=xh h;clear e1 hd h;unfold dp at *;go_enter Tryz.func104,Tryz.ntmps104;go_wp2_with fail;refine K.o.mono ?_;rintro e w1 ⟨rfl,rfl⟩;go_wp2_with fail;go_ret;exact⟨rfl,H.o,ag.refl _ _⟩
theorem xO(h:aG w L n d):
  Calls Tryz.prog 182 #[dp L.b] w λe w'=>e=.returned (.int .i64 n)/\w=w':=by
 have f0:=h.f0;unfold dp;go_enter Tryz.func182,Tryz.ntmps182
 go_wp2
 go_ret;exact⟨rfl,rfl⟩
end Go.Proofs.YtmonobkginiajaaGreat.Dk
namespace Go.Proofs.YtmonobkginiajaaGreat.Dk
open Go.RowKit
attribute [local go_sem ↓] vZ we pf
def D.zero(n:Nat):D:={now:=List.replicate (64*n) 0,bM:=List.replicate (64*n) 0,loose:=List.replicate n false,aT:=0,calls:=0,down:=false}
theorem Am:(Tryz.prog.info? 152).map (λi=>(i.zero,i.size,i.bytes))=some (some lA,64,64):=by kernel_rfl
theorem DJ:(Tryz.prog.info? 4).map (λi=>(i.zero,i.size,i.bytes))=some (some (.bool false),1,1):=by kernel_rfl
theorem qG(n:Nat):madeCells lA.cells (n*64)=(cf (List.replicate (64*n) 0)).toArray:=by
 have h0:lA.cells=(List.replicate 64 (Value.int .u8 0)).toArray:=by
  show(cf (List.replicate 64 0)).toArray=_;rw[cf,List.map_replicate];rfl
 have hz:∀k,k<64->lA.cells[k]! = .int .u8 0:=by
  intro k h;rw[h0,getElem!_pos _ k (by rw[iA,eM];exact h),List.getElem_toArray,List.getElem_replicate]
 have hs:lA.cells.size=64:=by rw[h0,iA,eM]
 apply Array.ext
 .simp[size_madeCells];omega
 .intro i h1 h2;simp only[madeCells,hs];rw[Array.getElem_map,Array.getElem_range,hz _ (lX _ (by decide))];simp[cf,bv]
def dK(n:Nat):Obj:= .cells (cf (List.replicate (64*n) 0)).toArray 152
def iU(n:Nat):Obj:= .cells (k8 (List.replicate n false)).toArray 4
theorem DK(n:Nat)(hn:n<=4096)(w:World):
  (Instr.makeSlice 147 (.int .i64 n) (.int .i64 n)).run Tryz.prog w=.ok (.slice (some ⟨w.heap.size,0,none⟩) n n) (w.alloc (dK n)):=by
 obtain⟨i0,hi,jb,gW,iS⟩:=info_parts Am;have h:=run_make (P:=Tryz.prog) w 147 152 i0 lA Tryz.underlying147 hi jb .i64 .i64 n n (by omega) (gE _) (by rw[iS];omega) (by omega);rw[h,gW];simp only[eK,qG];rfl
theorem An(n:Nat)(hn:n<=4096)(w:World):
  (Instr.makeSlice 65 (.int .i64 n) (.int .i64 n)).run Tryz.prog w=.ok (.slice (some ⟨w.heap.size,0,none⟩) n n) (w.alloc (iU n)):=by
 obtain⟨i0,hi,jb,gW,iS⟩:=info_parts DJ;have h:=run_make (P:=Tryz.prog) w 65 4 i0 (.bool false) Tryz.underlying65 hi jb .i64 .i64 n n (by omega) (gE _) (by rw[iS];omega) (by omega);rw[h,gW];have e:madeCells (Value.bool false).cells (((n:Int).toNat)*1)=(k8 (List.replicate n false)).toArray:=by
  show madeCells #[Value.bool false] (n*1)=_;rw[qX,eU];simp[k8]
 rw[e];rfl
theorem four(w:World)(a b c d:Obj):((((w.alloc a).alloc b).alloc c).alloc d).heap[w.heap.size]?=some a/\((((w.alloc a).alloc b).alloc c).alloc d).heap[w.heap.size+1]?=some b/\((((w.alloc a).alloc b).alloc c).alloc d).heap[w.heap.size+1+1]?=some c/\((((w.alloc a).alloc b).alloc c).alloc d).heap[w.heap.size+1+1+1]?=some d:=by
 have s1:(w.alloc a).heap.size=w.heap.size+1:=by simp
 have s2:((w.alloc a).alloc b).heap.size=w.heap.size+1+1:=by simp
 have s3:(((w.alloc a).alloc b).alloc c).heap.size=w.heap.size+1+1+1:=by simp
 have e2:=heap_alloc_new (w.alloc a) b;have e3:=heap_alloc_new ((w.alloc a).alloc b) c;have e4:=heap_alloc_new (((w.alloc a).alloc b).alloc c) d;rw[s1]at e2;rw[s2]at e3;rw[s3]at e4;exact⟨(Below.heap_alloc _ d _ (by omega)).trans ((Below.heap_alloc _ c _ (by omega)).trans ((Below.heap_alloc _ b _ (by omega)).trans (heap_alloc_new w a))),(Below.heap_alloc _ d _ (by omega)).trans ((Below.heap_alloc _ c _ (by omega)).trans e2),(Below.heap_alloc _ d _ (by omega)).trans e3,e4⟩
theorem ph(w:World)(a b c d:Obj):Below w.heap.size w ((((w.alloc a).alloc b).alloc c).alloc d).drew:=
 (((((Below.refl _ _).alloc (ak _) _).alloc (by simp) _).alloc (by simp;omega) _).alloc (by simp;omega) _).drew
theorem kN(n:Nat)(hn:n<=4096):(D.zero n).Ok n:=⟨by simp[D.zero],by simp[D.zero],by simp[D.zero],hn,gE 0,gE 0⟩
theorem wg(n:Nat)(w:World)(h1:1<=n)(hn:n<=4096):
  Calls Tryz.prog 52 #[.int .i64 n] w λe w'=> ∃L,e=.returned (.tuple #[dp L.b,.int .i64 0])/\aG w' L n (D.zero n)/\Below w.heap.size w w'/\(∀x∈L.fp,w.heap.size<=x):=by
 have m1:=DK n hn;have m2:=An n hn;go_enter Tryz.func52,Tryz.ntmps52
 go_wp2
 go_region
 all_goals go_wp2
 all_goals go_ret2
 all_goals first|exact⟨⟨w.heap.size+1+1+1,w.heap.size,w.heap.size+1,w.heap.size+1+1⟩,rfl,⟨.of_eq (four w (dK n) (dK n) (iU n) (.cells (fields ⟨w.heap.size+1+1+1,w.heap.size,w.heap.size+1,w.heap.size+1+1⟩ n (D.zero n)) 149)).2.2.2,.of_eq (four w (dK n) (dK n) (iU n) (.cells (fields ⟨w.heap.size+1+1+1,w.heap.size,w.heap.size+1,w.heap.size+1+1⟩ n (D.zero n)) 149)).1,.of_eq (four w (dK n) (dK n) (iU n) (.cells (fields ⟨w.heap.size+1+1+1,w.heap.size,w.heap.size+1,w.heap.size+1+1⟩ n (D.zero n)) 149)).2.1,.of_eq (four w (dK n) (dK n) (iU n) (.cells (fields ⟨w.heap.size+1+1+1,w.heap.size,w.heap.size+1,w.heap.size+1+1⟩ n (D.zero n)) 149)).2.2.1,by dsimp only;omega,kN n hn⟩,ph w _ _ _ _,by simp[Loc.fp];omega⟩|exact⟨⟨w.heap.size+1+1+1,w.heap.size,w.heap.size+1+1,w.heap.size+1⟩,rfl,⟨.of_eq (four w (dK n) (iU n) (dK n) (.cells (fields ⟨w.heap.size+1+1+1,w.heap.size,w.heap.size+1+1,w.heap.size+1⟩ n (D.zero n)) 149)).2.2.2,.of_eq (four w (dK n) (iU n) (dK n) (.cells (fields ⟨w.heap.size+1+1+1,w.heap.size,w.heap.size+1+1,w.heap.size+1⟩ n (D.zero n)) 149)).1,.of_eq (four w (dK n) (iU n) (dK n) (.cells (fields ⟨w.heap.size+1+1+1,w.heap.size,w.heap.size+1+1,w.heap.size+1⟩ n (D.zero n)) 149)).2.2.1,.of_eq (four w (dK n) (iU n) (dK n) (.cells (fields ⟨w.heap.size+1+1+1,w.heap.size,w.heap.size+1+1,w.heap.size+1⟩ n (D.zero n)) 149)).2.1,by dsimp only;omega,kN n hn⟩,ph w _ _ _ _,by simp[Loc.fp];omega⟩|exact⟨⟨w.heap.size+1+1+1,w.heap.size+1,w.heap.size,w.heap.size+1+1⟩,rfl,⟨.of_eq (four w (dK n) (dK n) (iU n) (.cells (fields ⟨w.heap.size+1+1+1,w.heap.size+1,w.heap.size,w.heap.size+1+1⟩ n (D.zero n)) 149)).2.2.2,.of_eq (four w (dK n) (dK n) (iU n) (.cells (fields ⟨w.heap.size+1+1+1,w.heap.size+1,w.heap.size,w.heap.size+1+1⟩ n (D.zero n)) 149)).2.1,.of_eq (four w (dK n) (dK n) (iU n) (.cells (fields ⟨w.heap.size+1+1+1,w.heap.size+1,w.heap.size,w.heap.size+1+1⟩ n (D.zero n)) 149)).1,.of_eq (four w (dK n) (dK n) (iU n) (.cells (fields ⟨w.heap.size+1+1+1,w.heap.size+1,w.heap.size,w.heap.size+1+1⟩ n (D.zero n)) 149)).2.2.1,by dsimp only;omega,kN n hn⟩,ph w _ _ _ _,by simp[Loc.fp];omega⟩|exact⟨⟨w.heap.size+1+1+1,w.heap.size+1,w.heap.size+1+1,w.heap.size⟩,rfl,⟨.of_eq (four w (iU n) (dK n) (dK n) (.cells (fields ⟨w.heap.size+1+1+1,w.heap.size+1,w.heap.size+1+1,w.heap.size⟩ n (D.zero n)) 149)).2.2.2,.of_eq (four w (iU n) (dK n) (dK n) (.cells (fields ⟨w.heap.size+1+1+1,w.heap.size+1,w.heap.size+1+1,w.heap.size⟩ n (D.zero n)) 149)).2.1,.of_eq (four w (iU n) (dK n) (dK n) (.cells (fields ⟨w.heap.size+1+1+1,w.heap.size+1,w.heap.size+1+1,w.heap.size⟩ n (D.zero n)) 149)).2.2.1,.of_eq (four w (iU n) (dK n) (dK n) (.cells (fields ⟨w.heap.size+1+1+1,w.heap.size+1,w.heap.size+1+1,w.heap.size⟩ n (D.zero n)) 149)).1,by dsimp only;omega,kN n hn⟩,ph w _ _ _ _,by simp[Loc.fp];omega⟩|exact⟨⟨w.heap.size+1+1+1,w.heap.size+1+1,w.heap.size,w.heap.size+1⟩,rfl,⟨.of_eq (four w (dK n) (iU n) (dK n) (.cells (fields ⟨w.heap.size+1+1+1,w.heap.size+1+1,w.heap.size,w.heap.size+1⟩ n (D.zero n)) 149)).2.2.2,.of_eq (four w (dK n) (iU n) (dK n) (.cells (fields ⟨w.heap.size+1+1+1,w.heap.size+1+1,w.heap.size,w.heap.size+1⟩ n (D.zero n)) 149)).2.2.1,.of_eq (four w (dK n) (iU n) (dK n) (.cells (fields ⟨w.heap.size+1+1+1,w.heap.size+1+1,w.heap.size,w.heap.size+1⟩ n (D.zero n)) 149)).1,.of_eq (four w (dK n) (iU n) (dK n) (.cells (fields ⟨w.heap.size+1+1+1,w.heap.size+1+1,w.heap.size,w.heap.size+1⟩ n (D.zero n)) 149)).2.1,by dsimp only;omega,kN n hn⟩,ph w _ _ _ _,by simp[Loc.fp];omega⟩|exact⟨⟨w.heap.size+1+1+1,w.heap.size+1+1,w.heap.size+1,w.heap.size⟩,rfl,⟨.of_eq (four w (iU n) (dK n) (dK n) (.cells (fields ⟨w.heap.size+1+1+1,w.heap.size+1+1,w.heap.size+1,w.heap.size⟩ n (D.zero n)) 149)).2.2.2,.of_eq (four w (iU n) (dK n) (dK n) (.cells (fields ⟨w.heap.size+1+1+1,w.heap.size+1+1,w.heap.size+1,w.heap.size⟩ n (D.zero n)) 149)).2.2.1,.of_eq (four w (iU n) (dK n) (dK n) (.cells (fields ⟨w.heap.size+1+1+1,w.heap.size+1+1,w.heap.size+1,w.heap.size⟩ n (D.zero n)) 149)).2.1,.of_eq (four w (iU n) (dK n) (dK n) (.cells (fields ⟨w.heap.size+1+1+1,w.heap.size+1+1,w.heap.size+1,w.heap.size⟩ n (D.zero n)) 149)).1,by dsimp only;omega,kN n hn⟩,ph w _ _ _ _,by simp[Loc.fp];omega⟩
end Go.Proofs.YtmonobkginiajaaGreat.Dk
