/- packed. -/
import Derived.Test.YtmonobkginiajaaGreatBs1
set_option linter.all false
set_option maxRecDepth 100000
set_option maxHeartbeats 8000000
namespace Go.Proofs.YtmonobkginiajaaGreat
open Go.Proofs.Tryz
namespace Dk
open Go.RowKit
variable{F c:List UInt8}{o n i:Nat}
def sec(F:List UInt8)(i:Nat):List UInt8:=(F.drop (64*i)).take 64
def lay(F:List UInt8)(o:Nat)(c:List UInt8):List UInt8:=F.take o++c++F.drop (o+c.length)
def gj(F:List UInt8)(i:Nat)(c:List UInt8):List UInt8:=lay F (64*i) c
theorem iA(h:o+c.length<=F.length):(lay F o c).length=F.length:=by
 simp[lay];omega
theorem tX(F:List UInt8)(o:Nat)(c:List UInt8):putAt (dN F) o (dN c)=dN (lay F o c):=by
 simp[putAt,lay,dN]
theorem mr(hF:F.length=64*n)(hi:i<n):(sec F i).length=64:=by
 simp[sec];omega
theorem oG(h:o+c.length<=F.length)(j:Nat):(lay F o c)[j]?=if o<=j/\j<o+c.length then c[j-o]? else F[j]?:=by
 unfold lay
 by_cases h1:j<o
 .rw[if_neg (by omega),cy,bE (by simp;omega),pH h1]
 .have e:(F.take o).length=o:=by simp;omega
  by_cases h2:j<o+c.length
  .rw[if_pos ⟨by omega,h2⟩,cy,dR (by omega),e,bE (by omega)]
  .rw[if_neg (by omega),dR (by simp;omega),gK]
   congr 1
   simp;omega
theorem yC(F:List UInt8)(i j:Nat):(sec F i)[j]?=if j<64 then F[64*i+j]? else none:=by
 unfold sec
 by_cases h:j<64
 .rw[if_pos h,pH h,gK]
 .rw[if_neg h,fG (by simp;omega)]
theorem NA{k:Nat}(hF:F.length=64*n)(hi:i<n)(hc:c.length=64)(_hk:k<n):sec (gj F i c) k=if i=k then c else sec F k:=by
 apply mq;intro j;rw[yC];unfold gj;rw[oG (by omega)]
 by_cases hj:j<64
 .rw[if_pos hj,hc]
  by_cases e:i=k
  .subst e;rw[if_pos ⟨by omega,by omega⟩,if_pos rfl]
   congr 1;omega
  .rw[if_neg (by omega),if_neg e,yC,if_pos hj]
 .rw[if_neg hj]
  split
  .rw[fG (by omega)]
  .rw[yC,if_neg hj]
def jV(s:List UInt8):List UInt8:=s.take 64++List.replicate (64-s.length) 0
theorem jW(s:List UInt8):(jV s).length=64:=by simp[jV];omega
theorem Pv(F s:List UInt8)(hF:F.length=64*n)(hi:i<n):lay (gj F i (List.replicate 64 0)) (64*i) (s.take 64)=gj F i (jV s):=by
 have h0:(gj F i (List.replicate 64 0)).length=F.length:=iA (by simp;omega);apply mq;intro j;have hz:=jW s;rw[oG (by rw[h0];simp;omega)];unfold gj;rw[oG (by simp;omega),oG (by omega),hz];simp only[bK,ev]
 by_cases h1:64*i<=j/\j<64*i+min 64 s.length
 .rw[if_pos h1,if_pos (by omega),jV,bE (by simp;omega)]
 .rw[if_neg h1]
  by_cases h2:64*i<=j/\j<64*i+64
  .rw[if_pos h2,if_pos h2,jV,dR (by simp;omega),Ej,Ej];simp only[bK];rw[if_pos (by omega),if_pos (by omega)]
  .rw[if_neg h2,if_neg h2]
structure D where
 now:List UInt8
 bQ:List UInt8
 loose:List Bool
 bn:Int
 calls:Int
 down:Bool
structure D.Ok(d:D)(n:Nat):Prop where
 now:d.now.length=64*n
 bQ:d.bQ.length=64*n
 loose:d.loose.length=n
 small:n<=4096
 bn:0<=d.bn
 calls:0<=d.calls
def D.fH(d:D):Int:=if d.down then 13 else 0
def D.jD(d:D)(n:Nat)(i:Int):Int:=if d.down then 13 else if 0<=i/\i<n then 0 else 3
def D.cF(d:D):D×Int:=
 if d.bn=0 then({d with calls:=d.calls+1},0)
 else if d.bn=1 then({d with calls:=d.calls+1,bn:=0,down:=true},13)
 else({d with calls:=d.calls+1,bn:=d.bn-1,down:=false},0)
def D.il(d:D)(i:Nat):D:=if d.loose.getD i false then d else {d with bQ:=gj d.bQ i (sec d.now i),loose:=d.loose.set i true}
def D.du(d:D)(i:Nat)(s:List UInt8):D:={d.il i with now:=gj d.now i (jV s)}
def D.aA(d:D)(n:Nat)(i:Int)(s:List UInt8):D×Int:=
 if d.jD n i=0 then(d.du i.toNat s).cF else(d,d.jD n i)
def D.eh(d:D):D×Int:=
 if d.down then(d,13)else if d.cF.2=0 then({d.cF.1 with loose:=List.replicate d.loose.length false},0)else d.cF
theorem D.Ok.count{d:D}(h:d.Ok n):(d.cF).1.Ok n:=by
 have:=h.calls;have:=h.bn;unfold D.cF
 split
 .exact⟨h.now,h.bQ,h.loose,h.small,h.bn,by show 0<=d.calls+1;omega⟩
 .split
  .exact⟨h.now,h.bQ,h.loose,h.small,jg 0,by show 0<=d.calls+1;omega⟩
  .exact⟨h.now,h.bQ,h.loose,h.small,by show 0<=d.bn-1;omega,by show 0<=d.calls+1;omega⟩
theorem D.Ok.pw{d:D}(h:d.Ok n)(i:Nat)(hi:i<n):(d.il i).Ok n:=by
 unfold D.il
 split
 .exact h
 .have e:=mr h.now hi;have:=h.bQ;exact⟨h.now,by show(gj d.bQ i (sec d.now i)).length=_;unfold gj;rw[iA (by omega)];exact h.bQ,by show(d.loose.set i true).length=_;rw[bW];exact h.loose,h.small,h.bn,h.calls⟩
theorem D.Tg(d:D)(i:Nat):(d.il i).now=d.now:=by unfold D.il;split<;>rfl
theorem D.Ok.put{d:D}(h:d.Ok n)(i:Nat)(s:List UInt8)(hi:i<n):(d.du i s).Ok n:=by
 have hk:=h.pw i hi;have e:=jW s;have:=h.now;exact⟨by show(gj d.now i (jV s)).length=_;unfold gj;rw[iA (by omega)];exact h.now,hk.bQ,hk.loose,hk.small,hk.bn,hk.calls⟩
theorem D.Ok.write{d:D}(h:d.Ok n)(i:Int)(s:List UInt8):(d.aA n i s).1.Ok n:=by
 unfold D.aA
 split
 .rename_i ha;have hi:0<=i/\i<n:=by
   unfold D.jD at ha
   split at ha
   .cases ha
   .split at ha
    .assumption
    .cases ha
  exact(h.put i.toNat s (by omega)).count
 .exact h
theorem D.Ok.sync{d:D}(h:d.Ok n):(d.eh).1.Ok n:=by
 have hc:=h.count;unfold D.eh
 split
 .exact h
 .split
  .exact⟨hc.now,hc.bQ,by show(List.replicate d.loose.length false).length=n;simp;exact h.loose,hc.small,hc.bn,hc.calls⟩
  .exact hc
variable{w:World}{g:Nat}{t:TypeId}{l:List Value}
noncomputable def NC(w:World)(v:Value):Result Value:=(Instr.loadAt 152 v).run prog w
noncomputable def ND(w:World)(a v:Value):Result Unit:=(Instr.storeAt 152 a v).run prog w
theorem EL(ρ:Operand->Value)(dst:Option Tmp)(x:Operand)(t:TypeId)(p:String)(af:Array Edge)(g:Option (Nat×Bool))(w:World):
  (execOp ρ {dst:=dst,op:= .load 152 x,type:=t,pos:=p,after:=af,guard:=g}).run prog w=(NC w (ρ x)).andThen λv w'=> .ok (.value v) w':=by
 simp only[execOp,Sem.run_bind,Sem.run_pure];rfl
theorem EM(ρ:Operand->Value)(dst:Option Tmp)(x y:Operand)(t:TypeId)(p:String)(af:Array Edge)(g:Option (Nat×Bool))(w:World):
  (execOp ρ {dst:=dst,op:= .store 152 x y,type:=t,pos:=p,after:=af,guard:=g}).run prog w=(ND w (ρ x) (ρ y)).andThen λ_ w'=> .ok .skip w':=by
 simp only[execOp,Sem.run_bind,Sem.run_pure];rfl
noncomputable def pL:Value:= .agg (dN (List.replicate 64 0)).toArray
theorem vr(ρ:Operand->Value)(dst:Option Tmp)(t:TypeId)(p:String)(af:Array Edge)(g:Option (Nat×Bool))(w:World):
  (execOp ρ {dst:=dst,op:= .build 152 #[],type:=t,pos:=p,after:=af,guard:=g}).run prog w=.ok (.value pL) w:=by kernel_rfl
theorem GG:prog.underlying 152=some (.array 64 5):=underlying152
theorem zf:(prog.info? 152).map (·.size)=some 64:=by kernel_rfl
theorem Th(B:aF w g t l.toArray)(o:Nat)(c:List Value)(hc:c.length=64)(h:∀j v,c[j]?=some v->l[o+j]?=some v):
  NC w (.pointer (some ⟨g,o,none⟩))= .ok (.agg c.toArray) w:=by
 have hl:=run_loadCells_list (P:=prog) w ⟨g,o,none⟩ c (bq B o c h);rw[hc]at hl;unfold NC Instr.loadAt;obtain⟨i,hi,hs⟩:∃i,prog.info? 152=some i/\i.size=64:=by
  have:=zf
  cases hq:prog.info? 152 with
  |none=>rw[hq]at this;cases this
  |some i=>rw[hq]at this;exact⟨i,rfl,by simpa using this⟩
 simp[Instr.sureAddr,loadVar,isAgg,run_underlying GG,sizeOf,typeInfo,hi,hs,hl,Result.andThen]
theorem GH(B:aF w g t l.toArray)(o:Nat)(c:List Value)(hc:c.length=64)(ho:o+64<=l.length)(h1:∀v∈c,v.oneCell'=true):
  ∃w',ND w (.pointer (some ⟨g,o,none⟩)) (.agg c.toArray)= .ok () w'/\aF w' g t (putAt l o c).toArray/\ag [g] w w':=by
 have uO:=run_storeCells_cells (P:=prog) g o c 0 w (λj hj=>by rw[B.cell];simp;omega) (λj hj=>B.frozen _ (by simp;omega)) h1;refine⟨w.setCells g o c,?_,B.setCells c o (by omega),(ag.refl _ _).setCells c o (by simp)⟩;unfold ND Instr.storeAt;obtain⟨i,hi,hs⟩:∃i,prog.info? 152=some i/\i.size=64:=by
  have:=zf
  cases hq:prog.info? 152 with
  |none=>rw[hq]at this;cases this
  |some i=>rw[hq]at this;exact⟨i,rfl,by simpa using this⟩
 simp only[kY]at uO;simp[Instr.sureAddr,storeVar,Value.cells,sizeOf,typeInfo,hi,hs,hc,uO,Result.andThen]
variable{w:World}{n:Nat}{d:D}
structure Loc where
 b:Nat
 gN:Nat
 gO:Nat
 gL:Nat
def Loc.fp(L:Loc):List Nat:=[L.b,L.gN,L.gO,L.gL]
def oY(l:List Bool):List Value:=l.map Value.bool
@[simp] theorem bools_length(l:List Bool):(oY l).length=l.length:=by simp[oY]
theorem CB(l:List Bool)(k:Nat)(h:k<l.length):(oY l)[k]?=some (.bool (l.getD k false)):=by
 simp[oY,List.getD,h]
theorem Pw(l:List Bool)(k:Nat)(x:Bool):(oY l).set k (.bool x)=oY (l.set k x):=by simp[oY]
def fields(L:Loc)(n:Nat)(d:D):Array Value:=
 #[.slice (some ⟨L.gN,0,none⟩) n n,.slice (some ⟨L.gO,0,none⟩) n n,.slice (some ⟨L.gL,0,none⟩) n n,.int .i64 d.bn,.int .i64 d.calls,.bool d.down]
structure aX(w:World)(L:Loc)(n:Nat)(d:D):Prop where
 hb:aF w L.b 149 (fields L n d)
 hN:aF w L.gN 152 (dN d.now).toArray
 hO:aF w L.gO 152 (dN d.bQ).toArray
 hL:aF w L.gL 4 (oY d.loose).toArray
 ne:L.gN≠L.gO
 ok:d.Ok n
section
variable{w w':World}{L:Loc}{n:Nat}{d:D}{S:List Nat}
theorem aX.only(h:aX w L n d)(ho:ag S w w')(hd:∀x∈L.fp,x∉S):aX w' L n d:=
 ⟨h.hb.only ho (hd _ (by simp[Loc.fp])),h.hN.only ho (hd _ (by simp[Loc.fp])),h.hO.only ho (hd _ (by simp[Loc.fp])),h.hL.only ho (hd _ (by simp[Loc.fp])),h.ne,h.ok⟩
theorem aX.below(h:aX w L n d)(hb:Below w.heap.size w w'):aX w' L n d:=h.only (S:=[]) (.ai hb) (by simp)
theorem aX.drew(h:aX w L n d):aX w.drew L n d:=⟨h.hb,h.hN,h.hO,h.hL,h.ne,h.ok⟩
theorem aX.lt(h:aX w L n d):∀x∈L.fp,x<w.heap.size:=by
 intro x hx;simp only[Loc.fp,aj,gP,or_false]at hx
 rcases hx with rfl|rfl|rfl|rfl
 .exact h.hb.lt
 .exact h.hN.lt
 .exact h.hO.lt
 .exact h.hL.lt
theorem aX.bN(h:aX w L n d):L.b≠L.gN:=h.hb.kl h.hN (by decide)
theorem aX.bO(h:aX w L n d):L.b≠L.gO:=h.hb.kl h.hO (by decide)
theorem aX.bL(h:aX w L n d):L.b≠L.gL:=h.hb.kl h.hL (by decide)
theorem aX.LN(h:aX w L n d):L.gL≠L.gN:=h.hL.kl h.hN (by decide)
theorem aX.LO(h:aX w L n d):L.gL≠L.gO:=h.hL.kl h.hO (by decide)
theorem aX.f0(h:aX w L n d):w.cell? ⟨L.b,0,none⟩=some (.slice (some ⟨L.gN,0,none⟩) n n):=h.hb.ab rfl
theorem aX.f1(h:aX w L n d):w.cell? ⟨L.b,1,none⟩=some (.slice (some ⟨L.gO,0,none⟩) n n):=h.hb.ab rfl
theorem aX.f2(h:aX w L n d):w.cell? ⟨L.b,2,none⟩=some (.slice (some ⟨L.gL,0,none⟩) n n):=h.hb.ab rfl
theorem aX.f3(h:aX w L n d):w.cell? ⟨L.b,3,none⟩=some (.int .i64 d.bn):=h.hb.ab rfl
theorem aX.f4(h:aX w L n d):w.cell? ⟨L.b,4,none⟩=some (.int .i64 d.calls):=h.hb.ab rfl
theorem aX.f5(h:aX w L n d):w.cell? ⟨L.b,5,none⟩=some (.bool d.down):=h.hb.ab rfl
theorem aX.fz(h:aX w L n d)(i:Nat)(hi:i<6):w.frozen? ⟨L.b,i,none⟩=false:=h.hb.frozen i (by simpa [fields]using hi)
theorem aX.head(h:aX w L n d){d':D}(B:aF w' L.b 149 (fields L n d'))(ho:ag [L.b] w w')(e1:d'.now=d.now)(e2:d'.bQ=d.bQ)(e3:d'.loose=d.loose)(fT:d'.Ok n):aX w' L n d':=by
 refine⟨B,?_,?_,?_,h.ne,fT⟩
 .rw[e1];exact h.hN.only ho (by simp;exact λe=>h.bN e.symm)
 .rw[e2];exact h.hO.only ho (by simp;exact λe=>h.bO e.symm)
 .rw[e3];exact h.hL.only ho (by simp;exact λe=>h.bL e.symm)
end
def dp(b:Nat):Value:= .pointer (some ⟨b,0,none⟩)
theorem iQ{L:Loc}(h:aX w L n d):
  Calls prog 77 #[dp L.b] w λe w'=>e=.returned (.int .i64 d.fH)/\w=w':=by
 have f5:=h.f5;unfold dp D.fH;clear h
 cases hd:d.down
 all_goals
  rw[hd]at f5;go_enter func77,ntmps77
  go_wp2
  go_ret;exact⟨rfl,rfl⟩
theorem pM{L:Loc}(h:aX w L n d)(i:Int):
  Calls prog 134 #[dp L.b,.int .i64 i] w λe w'=>e=.returned (.int .i64 (d.jD n i))/\w=w':=by
 have f0:=h.f0;have hn:=h.ok.small;have K:=xh (iQ h);unfold D.fH at K;unfold D.jD;unfold dp at *;clear h
 cases hd:d.down
 .rw[hd]at K;simp only[oW,if_false]at K ⊢
  by_cases hi:0<=i/\i<n
  .rw[if_pos hi];obtain⟨h0,h1⟩:=hi;go_enter func134,ntmps134;go_wp2_with fail;refine K.o.mono ?_;rintro e w1 ⟨rfl,rfl⟩;go_wp2_with fail;go_ret;exact⟨rfl,rfl⟩
  .rw[if_neg hi];have oq:i<0\/(¬i<0/\(n:Int)<=i):=by omega
   clear hi
   rcases oq with h1|⟨h1,h2⟩
   all_goals
    go_enter func134,ntmps134;go_wp2_with fail;refine K.o.mono ?_;rintro e w1 ⟨rfl,rfl⟩;go_wp2_with fail;go_ret;exact⟨rfl,rfl⟩
 .rw[hd]at K;simp only[if_true]at K ⊢;go_enter func134,ntmps134;go_wp2_with fail;refine K.o.mono ?_;rintro e w1 ⟨rfl,rfl⟩;go_wp2_with fail;go_ret;exact⟨rfl,rfl⟩
theorem sF{L:Loc}(h:aX w L n d)(hc:d.calls<=4000000000000000000)(ha:d.bn<=9223372036854775807):
  Calls prog 159 #[dp L.b] w λe w'=>e=.returned (.int .i64 d.cF.2)/\aX w' L n d.cF.1/\ag [L.b] w w':=by
 have f3:=h.f3;have f4:=h.f4;have z3:=h.fz 3 (by omega);have z4:=h.fz 4 (by omega);have z5:=h.fz 5 (by omega);have f5:=h.f5;have a0:=h.ok.bn;have c0:=h.ok.calls;have H:=xh h;have B:=xh h.hb;have OKC:=xh h.ok.count;clear h
 by_cases h0:d.bn=0
 .have e1:d.cF=({d with calls:=d.calls+1},0):=by unfold D.cF;rw[if_pos h0]
  rw[e1];rw[e1]at OKC;rw[h0]at f3;have HA:=xh h0;clear h0 e1;unfold dp;go_enter func159,ntmps159;go_wp2_with fail;go_ret;have o1:ag [L.b] w (w.setCell ⟨L.b,4,none⟩ (.int .i64 (d.calls+1))):=(ag.refl _ _).setCell (by simp) _;exact⟨rfl,H.o.head (B.o.bU 4 _) o1 rfl rfl rfl OKC.o,o1⟩
 .by_cases h1:d.bn=1
  .have e1:d.cF=({d with calls:=d.calls+1,bn:=0,down:=true},13):=by unfold D.cF;rw[if_neg h0,if_pos h1]
   rw[e1];rw[e1]at OKC;rw[h1]at f3;have o1:ag [L.b] w (((w.setCell ⟨L.b,4,none⟩ (.int .i64 (d.calls+1))).setCell ⟨L.b,3,none⟩ (.int .i64 0)).setCell ⟨L.b,5,none⟩ (.bool true)):=(((ag.refl _ _).setCell (by simp) _).setCell (by simp) _).setCell (by simp) _;have D1:=H.o.head (d':={d with calls:=d.calls+1,bn:=0,down:=true}) ((((B.o.bU 4 (.int .i64 (d.calls+1))).bU 3 (.int .i64 0)).bU 5 (.bool true))) o1 rfl rfl rfl OKC.o;have K:=xh (iQ D1);have D1:=xh D1
   have O1:=xh o1;clear h0 h1 e1 o1;unfold D.fH dp at *;go_enter func159,ntmps159;go_wp2_with fail;refine K.o.mono ?_;rintro e w1 ⟨rfl,rfl⟩;go_wp2_with fail;go_ret;exact⟨rfl,D1.o,O1.o⟩
  .have e1:d.cF=({d with calls:=d.calls+1,bn:=d.bn-1,down:=false},0):=by unfold D.cF;rw[if_neg h0,if_neg h1]
   rw[e1];rw[e1]at OKC;have o1:ag [L.b] w (((w.setCell ⟨L.b,4,none⟩ (.int .i64 (d.calls+1))).setCell ⟨L.b,3,none⟩ (.int .i64 (d.bn-1))).setCell ⟨L.b,5,none⟩ (.bool false)):=(((ag.refl _ _).setCell (by simp) _).setCell (by simp) _).setCell (by simp) _;have D1:=H.o.head (d':={d with calls:=d.calls+1,bn:=d.bn-1,down:=false}) ((((B.o.bU 4 (.int .i64 (d.calls+1))).bU 3 (.int .i64 (d.bn-1))).bU 5 (.bool false))) o1 rfl rfl rfl OKC.o;have K:=xh (iQ D1)
   have D1:=xh D1;have O1:=xh o1;have t0:(d.bn==0)=false:=by simpa using h0
   have t1:(d.bn-1==0)=false:=by simp;omega
   clear e1 o1;unfold D.fH dp at *;go_enter func159,ntmps159;go_wp2_with fail;refine K.o.mono ?_;rintro e w1 ⟨rfl,rfl⟩;go_wp2_with fail;go_ret;exact⟨rfl,D1.o,O1.o⟩
attribute [local go_sem ↓] EL EM vr
variable{k n:Nat}{w:World}{L:Loc}
theorem CD{F:List UInt8}(j:Nat)(v:Value)(h:(dN (sec F k))[j]?=some v):(dN F)[k*64+j]?=some v:=by
 rw[yz,yC]at h;rw[yz]
 split at h
 .rw[show k*64+j=64*k+j by omega];exact h
 .simp at h
def D.aK(d:D)(n:Nat)(i:Int):List UInt8×Int:=if d.jD n i=0 then(sec d.now i.toNat,0)else([],d.jD n i)
theorem Ti{d:D}{i:Int}(h:d.jD n i=0):0<=i/\i<n:=by
 unfold D.jD at h
 split at h
 .cases h
 .split at h
  .assumption
  .cases h
theorem CE(d:D)(n:Nat)(i:Int):d.jD n i=0\/((d.jD n i==0)=false):=by
 by_cases h:d.jD n i=0
 .exact .inl h
 .exact .inr (by simpa using h)
theorem nC{d:D}(h:aX w L n d)(i:Int):
  Calls prog 79 #[dp L.b,.int .i64 i] w λe w'=>e=.returned (.tuple #[.string ⟨(d.aK n i).1.toArray⟩,.int .i64 (d.aK n i).2])/\w=w':=by
 have K:=xh (pM h i);have hn:=h.ok.small
 rcases CE d n i with ha|ha
 .have hi:=Ti ha;have e1:d.aK n i=(sec d.now i.toNat,0):=by unfold D.aK;rw[if_pos ha]
  rw[e1];rw[ha]at K;obtain⟨k,rfl⟩:=eT hi.1;have hk:k<n:=by omega
  have f0:=h.f0;have uO:=λ(a b:Nat) (ha:64=a) (hb:k*64=b)=>(cm (P:=prog) w 150 9 5 underlying150 underlying5 underlying9 ⟨L.gN,b,none⟩ a a (sec d.now k) (ha▸mr h.ok.now hk) (hb▸bq h.hN (k*64) _ CD));have HS:=xh (uO 64 (k*64) rfl rfl);clear uO e1 ha hi h;unfold dp at *;go_enter func79,ntmps79;go_wp2_with fail;refine K.o.mono ?_;rintro e w1 ⟨rfl,rfl⟩;go_wp2_with fail;rw[HS.o];go_wp2_with fail;go_ret2;exact⟨rfl,rfl⟩
 .have e1:d.aK n i=([],d.jD n i):=by unfold D.aK;rw[if_neg (by simpa using ha)]
  rw[e1];generalize d.jD n i=x at *;clear e1 h;unfold dp at *;go_enter func79,ntmps79;go_wp2_with fail;refine K.o.mono ?_;rintro e w1 ⟨rfl,rfl⟩;go_wp2_with fail;go_ret2;exact⟨rfl,rfl⟩
theorem Px(F:List UInt8)(s:ByteArray)(hF:F.length=64*n)(hk:k<n):
  putAt (putAt (dN F) (k*64) (dN (List.replicate 64 0))) (k*64) (dN (s.data.toList.take (Nat.min s.size 64)))=dN (gj F k (jV s.data.toList)):=by
 rw[tX,tX,<-Pv F s.data.toList hF hk];have e:s.data.toList.take (Nat.min s.size 64)=s.data.toList.take 64:=by
  rcases Nat.le_total s.size 64 with h|h
  .rw[show Nat.min s.size 64=s.size from qQ h,cr (by simp),cr (by simpa using h)]
  .rw[show Nat.min s.size 64=64 from Nat.min_eq_right h]
 rw[e,show k*64=64*k from mQ _ _];rfl
theorem ou:(prog.info? 5).map (·.size)=some 1:=by kernel_rfl
theorem NG{d:D}(h:aX w L n d)(k:Nat)(hk:k<n)(s:ByteArray):
  ∃w1,ND w (.pointer (some ⟨L.gN,k*64,none⟩)) pL=.ok () w1/\ag [L.gN] w w1/\
   ∃w2,(Builtin.copy_ #[150,9] 3 #[.slice (some ⟨L.gN,k*64,none⟩) 64 64,.string s]).run prog w1=.ok (goInt (Nat.min s.size 64)) w2/\aX w2 L n {d with now:=gj d.now k (jV s.data.toList)}/\ag [L.gN] w w2:=by
 have hlen:=h.ok.now;obtain⟨w1,e1,B1,o1⟩:=GH h.hN (k*64) (dN (List.replicate 64 0)) (by simp) (by simp;omega) (tR _);obtain⟨w2,e2,B2,o2⟩:=mR (P:=prog) B1 150 9 3 5 (k*64) 64 64 s (Nat.min s.size 64) underlying150 ou rfl (by rw[jT (by simp;omega)];have hm:Nat.min s.size 64<=64:=Nat.min_le_right _ _;rw[jy,hlen];omega);rw[Px _ _ hlen hk]at B2;have o:=o1.trans o2
 refine⟨w1,e1,o1,w2,e2,⟨h.hb.only o (by simp;exact h.bN),B2,h.hO.only o (by simp;exact λe=>h.ne e.symm),h.hL.only o (by simp;exact h.LN),h.ne,?_⟩,o⟩;have:=jW s.data.toList;exact⟨by show(gj d.now k _).length=_;unfold gj;rw[iA (by omega)];exact hlen,h.ok.bQ,h.ok.loose,h.ok.small,h.ok.bn,h.ok.calls⟩
theorem Tj{w':World}{d:D}(h:aX w L n d)(o:ag [L.gN] w w'):w'.cell? ⟨L.b,0,none⟩=some (.slice (some ⟨L.gN,0,none⟩) n n):=
 (o.cell h.hb.lt (by simp;exact h.bN)).trans h.f0
theorem Py{d:D}(h:aX w L n d)(k:Nat)(hk:k<n)(s:ByteArray)(ha:d.jD n k=0)(hc:d.calls<=4000000000000000000)(hr:d.bn<=9223372036854775807)(hl:d.loose.getD k false=false):
  Calls prog 103 #[dp L.b,.int .i64 k,.string s] w λe w'=>e=.returned (.int .i64 ((d.du k s.data.toList).cF).2)/\aX w' L n ((d.du k s.data.toList).cF).1/\ag L.fp w w':=by
 have K:=xh (pM h k);have hn:=h.ok.small;rw[ha]at K;have f0:=h.f0;have f1:=h.f1;have f2:=h.f2;have cl:w.cell? ⟨L.gL,k,none⟩=some (.bool false):=by
  rw[<-hl];refine h.hL.ab ?_;rw[dh,CB _ _ (by rw[h.ok.loose];exact hk)]
 have zg:d.il k={d with bQ:=gj d.bQ k (sec d.now k),loose:=d.loose.set k true}:=by unfold D.il;rw[hl];rfl
 have sG:d.du k s.data.toList={d.il k with now:=gj (d.il k).now k (jV s.data.toList)}:=by unfold D.du;rw[D.Tg]
 have DC:(d.il k).calls=d.calls:=by rw[zg]
 have DA:(d.il k).bn=d.bn:=by rw[zg]
 have fT:=h.ok.pw k hk;rw[sG];have hld:NC w.drew (.pointer (some ⟨L.gN,k*64,none⟩))= .ok (.agg (dN (sec d.now k)).toArray) w.drew:=Th h.hN.drew (k*64) _ (by rw[jy,mr h.ok.now hk]) CD;obtain⟨w2,uO,B2,o2⟩:=GH h.hO.drew (k*64) (dN (sec d.now k)) (by rw[jy,mr h.ok.now hk]) (by have:=h.ok.bQ;simp;omega) (tR _);have cl2:w2.cell? ⟨L.gL,k,none⟩=some (.bool false):=(o2.cell (eg cl) (by simp;exact h.LO)).trans cl
 have fl2:w2.frozen? ⟨L.gL,k,none⟩=false:=(o2.frozen (eg cl) (by simp;exact h.LO)).trans (h.hL.frozen k (by simp;rw[h.ok.loose];exact hk));have o2':ag L.fp w w2:=⟨o2.os,o2.tape,o2.output,o2.size,λb hb hn=>o2.block b hb (by simp[Loc.fp]at hn ⊢;exact hn.2.2.1)⟩;have hD:aX (w2.setCell ⟨L.gL,k,none⟩ (.bool true)) L n (d.il k):=by
  rw[zg]at fT ⊢;have B3:=((h.hL.drew.only o2 (by simp;exact h.LO)).bU k (.bool true));rw[tK,Pw]at B3;rw[tX]at B2;refine⟨(h.hb.drew.only o2 (by simp;exact h.bO)).aQ (by exact h.bL) _,(h.hN.drew.only o2 (by simp;exact h.ne)).aQ (by exact λe=>h.LN e.symm) _,?_,B3,h.ne,fT⟩;have:=B2.aQ (p:=⟨L.gL,k,none⟩) (λe=>h.LO e.symm) (.bool true)
  rwa [show k*64=64*k from mQ _ _]at this
 have oD:ag L.fp w (w2.setCell ⟨L.gL,k,none⟩ (.bool true)):=o2'.setCell (by simp[Loc.fp]) _;clear zg sG fT ha B2 o2 o2' h;generalize d.il k=d1 at *;unfold dp at *;go_enter func103,ntmps103;go_wp2_with fail;refine K.o.mono ?_;rintro e w1 ⟨rfl,rfl⟩;go_wp2_with fail
 go_region
 clear hld uO f0 f1 f2 cl cl2 fl2;generalize w2.setCell ⟨L.gL,k,none⟩ (.bool true)=w3 at *;have f0':=hD.f0;obtain⟨w4,st4,o4,w5,cp5,D5,o5⟩:=NG hD k hk s;have f04:=Tj hD o4;have CP:=xh cp5;have KC:=xh (sF D5 (by rw[DC];exact hc) (by rw[DA];exact hr));have HD:=xh D5;have O5:=xh (oD.trans (o5.mono (S':=L.fp) (by simp[Loc.fp])));clear hD oD cp5 D5 o4 o5 DC DA;unfold dp at KC;go_wp2_with fail;rw[CP.o];go_wp2_with fail;refine KC.o.mono ?_
 rintro e w6 ⟨rfl,D6,o6⟩;go_wp2_with fail;go_ret;exact⟨rfl,D6,O5.o.trans (o6.mono (by simp[Loc.fp]))⟩
theorem Pz{d:D}(h:aX w L n d)(k:Nat)(hk:k<n)(s:ByteArray)(ha:d.jD n k=0)(hc:d.calls<=4000000000000000000)(hr:d.bn<=9223372036854775807)(hl:d.loose.getD k false=true):
  Calls prog 103 #[dp L.b,.int .i64 k,.string s] w λe w'=>e=.returned (.int .i64 ((d.du k s.data.toList).cF).2)/\aX w' L n ((d.du k s.data.toList).cF).1/\ag L.fp w w':=by
 have K:=xh (pM h k);have hn:=h.ok.small;rw[ha]at K;have f0:=h.f0;have f1:=h.f1;have f2:=h.f2;have cl:w.cell? ⟨L.gL,k,none⟩=some (.bool true):=by
  rw[<-hl];refine h.hL.ab ?_;rw[dh,CB _ _ (by rw[h.ok.loose];exact hk)]
 have zg:d.il k=d:=by unfold D.il;rw[hl];rfl
 have sG:d.du k s.data.toList={d with now:=gj d.now k (jV s.data.toList)}:=by unfold D.du;rw[zg]
 rw[sG];have hD:=h;have oD:ag L.fp w w:=ag.refl _ _;have DC:d.calls=d.calls:=rfl;have DA:d.bn=d.bn:=rfl;have HDC:=xh DC;clear zg sG ha h DC DA;unfold dp at *;have f0':=hD.f0;obtain⟨w4,st4,o4,w5,cp5,D5,o5⟩:=NG hD k hk s;have f04:=Tj hD o4;have CP:=xh cp5;have KC:=xh (sF D5 hc hr);have HD:=xh D5;have O5:=xh (oD.trans (o5.mono (S':=L.fp) (by simp[Loc.fp])));clear hD oD cp5 D5 o4 o5;unfold dp at KC;go_enter func103,ntmps103
 go_wp2_with fail;refine K.o.mono ?_;rintro e w1 ⟨rfl,rfl⟩;go_wp2_with fail;rw[CP.o];go_wp2_with fail;refine KC.o.mono ?_;rintro e w6 ⟨rfl,D6,o6⟩;go_wp2_with fail;go_ret;exact⟨rfl,D6,O5.o.trans (o6.mono (by simp[Loc.fp]))⟩
end Dk
namespace Dk
open Go.RowKit
variable{w:World}{L:Loc}{n:Nat}{d:D}
theorem kz(h:aX w L n d)(i:Int)(s:ByteArray)(hc:d.calls<=4000000000000000000)(hr:d.bn<=9223372036854775807):
  Calls prog 103 #[dp L.b,.int .i64 i,.string s] w λe w'=>e=.returned (.int .i64 (d.aA n i s.data.toList).2)/\aX w' L n (d.aA n i s.data.toList).1/\ag L.fp w w':=by
 rcases CE d n i with ha|ha
 .have hi:=Ti ha;obtain⟨k,rfl⟩:=eT hi.1;have e1:d.aA n k s.data.toList=(d.du k s.data.toList).cF:=by unfold D.aA;rw[if_pos ha];rfl
  rw[e1]
  cases hl:d.loose.getD k false
  .exact Py h k (by omega) s ha hc hr hl
  .exact Pz h k (by omega) s ha hc hr hl
 .have e1:d.aA n i s.data.toList=(d,d.jD n i):=by unfold D.aA;rw[if_neg (by simpa using ha)]
  rw[e1];have K:=xh (pM h i);have H:=xh h;generalize d.jD n i=x at *;clear e1 h;unfold dp at *;go_enter func103,ntmps103;go_wp2_with fail;refine K.o.mono ?_;rintro e w1 ⟨rfl,rfl⟩;go_wp2_with fail;go_ret;exact⟨rfl,H.o,ag.refl _ _⟩
theorem Cc(z:Value)(n:Nat):(Builtin.zeroCells #[z] n).toList=List.replicate n z:=by
 unfold Builtin.zeroCells;apply uY
 .simp
 .intro i h1 h2;simp[Nat.mod_one]
theorem PD(l c:List Value)(h:l.length=c.length):putAt l 0 c=c:=by
 simp[putAt,h]
theorem PE{P:Program}{g:Nat}{t T e:TypeId}{l:List Value}(B:aF w g t l.toArray)(ht:P.underlying T=some (.slice e)){z:Value}(hz:∀w,(zeroValue e).run P w=.ok z w)(h1:z.cells= #[z])(js:z.oneCell'=true)(ty:TypeId)(n c:Nat)(hn:l.length=n):
  ∃w',(Builtin.clear_ #[T] ty #[.slice (some ⟨g,0,none⟩) n c]).run P w=.ok (.tuple #[]) w'/\aF w' g t (List.replicate n z).toArray/\ag [g] w w':=by
 rcases yt n with h0|h0
 .subst h0;have:l=[]:=nc hn;subst this;exact⟨w,by simp[Builtin.clear_,run_underlying ht],B,ag.refl _ _⟩
 .have uO:=run_storeCells_cells (P:=P) g 0 (List.replicate n z) 0 w (λj hj=>by rw[B.cell];simp at hj ⊢;omega) (λj hj=>B.frozen _ (by simp at hj ⊢;omega)) (by intro v hv;rw[(List.mem_replicate.1 hv).2];exact js);refine⟨w.setCells g 0 (List.replicate n z),?_,?_,(ag.refl _ _).setCells _ 0 (by simp)⟩
  .obtain⟨m,rfl⟩:∃m,n=m+1:=⟨n-1,by omega⟩;simp only[kY]at uO;simp[Builtin.clear_,run_underlying ht,hz,h1,Cc,uO,Result.andThen]
  .have:=B.setCells (List.replicate n z) 0 (by simp;omega)
   rwa [PD _ _ (by simp;omega)]at this
theorem zh(h:aX w L n d)(hc:d.calls<=4000000000000000000)(hr:d.bn<=9223372036854775807):
  Calls prog 104 #[dp L.b] w λe w'=>e=.returned (.int .i64 d.eh.2)/\aX w' L n d.eh.1/\ag L.fp w w':=by
 have K:=xh (iQ h);have KC:=xh (sF h hc hr);have PF:=xh h.ok.sync;unfold D.fH at K
 cases hd:d.down
 .rw[hd]at K;simp only[oW,if_false]at K
  by_cases h0:d.cF.2=0
  .have e1:d.eh=({d.cF.1 with loose:=List.replicate d.loose.length false},0):=by
    unfold D.eh;rw[hd,if_neg (by simp),if_pos h0]
   have tC:=h.ok.loose;rw[tC]at e1;rw[e1];rw[e1]at PF;rw[h0]at KC;have JE:d.cF.1.loose.length=n:=by
    have:=h.ok.count.loose;exact this
   clear e1 h0 hd h tC;generalize d.cF.1=d1 at *;unfold dp at *;go_enter func104,ntmps104;go_wp2_with fail;refine K.o.mono ?_;rintro e w1 ⟨rfl,rfl⟩;go_wp2_with fail;refine KC.o.mono ?_;rintro e w2 ⟨rfl,D2,o2⟩;have f2:=D2.f2;obtain⟨w3,ec,B3,o3⟩:=PE (P:=prog) D2.hL underlying65 (z:= .bool false) (λ_=>by kernel_rfl) rfl rfl 0 n n (by simpa using JE);have EC:=xh ec;clear ec JE;go_wp2_with fail;rw[EC.o];go_wp2_with fail;go_ret
   refine⟨rfl,⟨D2.hb.only o3 (by simp;exact D2.bL),D2.hN.only o3 (by simp;exact λe=>D2.LN e.symm),D2.hO.only o3 (by simp;exact λe=>D2.LO e.symm),?_,D2.ne,PF.o⟩,(o2.mono (by simp[Loc.fp])).trans (o3.mono (by simp[Loc.fp]))⟩;simpa [oY]using B3
  .have e1:d.eh=d.cF:=by
    unfold D.eh;rw[hd,if_neg (by simp),if_neg h0]
   rw[e1];have fc:(d.cF.2==0)=false:=by simpa using h0
   generalize d.cF=dd at *;clear e1 h0 hd h;obtain⟨d1,x⟩:=dd;simp only at fc KC;unfold dp at *;go_enter func104,ntmps104;go_wp2_with fail;refine K.o.mono ?_;rintro e w1 ⟨rfl,rfl⟩;go_wp2_with fail;refine KC.o.mono ?_;rintro e w2 ⟨rfl,D2,o2⟩;go_wp2_with fail;go_ret;exact⟨rfl,D2,o2.mono (by simp[Loc.fp])⟩
 .rw[hd]at K;simp only[if_true]at K;have e1:d.eh=(d,13):=by unfold D.eh;rw[hd,if_pos rfl]
  rw[e1];have H:=xh h;clear e1 hd h;unfold dp at *;go_enter func104,ntmps104;go_wp2_with fail;refine K.o.mono ?_;rintro e w1 ⟨rfl,rfl⟩;go_wp2_with fail;go_ret;exact⟨rfl,H.o,ag.refl _ _⟩
theorem GI(h:aX w L n d):
  Calls prog 182 #[dp L.b] w λe w'=>e=.returned (.int .i64 n)/\w=w':=by
 have f0:=h.f0;unfold dp;go_enter func182,ntmps182
 go_wp2
 go_ret;exact⟨rfl,rfl⟩
attribute [local go_sem ↓] EL EM vr
def D.zero(n:Nat):D:={now:=List.replicate (64*n) 0,bQ:=List.replicate (64*n) 0,loose:=List.replicate n false,bn:=0,calls:=0,down:=false}
theorem Ka:(prog.info? 152).map (λi=>(i.zero,i.size,i.bytes))=some (some pL,64,64):=by kernel_rfl
theorem PH:(prog.info? 4).map (λi=>(i.zero,i.size,i.bytes))=some (some (.bool false),1,1):=by kernel_rfl
theorem ye(n:Nat):madeCells pL.cells (n*64)=(dN (List.replicate (64*n) 0)).toArray:=by
 have h0:pL.cells=(List.replicate 64 (Value.int .u8 0)).toArray:=by
  show(dN (List.replicate 64 0)).toArray=_;rw[dN,List.map_replicate];rfl
 have hz:∀k,k<64->pL.cells[k]! = .int .u8 0:=by
  intro k h;rw[h0,getElem!_pos _ k (by rw[lV,ev];exact h),List.getElem_toArray,List.getElem_replicate]
 have hs:pL.cells.size=64:=by rw[h0,lV,ev]
 apply Array.ext
 .simp[size_madeCells];omega
 .intro i h1 h2;simp only[madeCells,hs];rw[Array.getElem_map,Array.getElem_range,hz _ (qR _ (by decide))];simp[dN,bv]
def fw(n:Nat):Obj:= .cells (dN (List.replicate (64*n) 0)).toArray 152
def lM(n:Nat):Obj:= .cells (oY (List.replicate n false)).toArray 4
theorem PJ(n:Nat)(hn:n<=4096)(w:World):
  (Instr.makeSlice 147 (.int .i64 n) (.int .i64 n)).run prog w=.ok (.slice (some ⟨w.heap.size,0,none⟩) n n) (w.alloc (fw n)):=by
 obtain⟨i0,hi,ku,js,ki⟩:=info_parts Ka;have h:=run_make (P:=prog) w 147 152 i0 pL underlying147 hi ku .i64 .i64 n n (by omega) (jg _) (by rw[ki];omega) (by omega);rw[h,js];simp only[gI,ye];rfl
theorem Kb(n:Nat)(hn:n<=4096)(w:World):
  (Instr.makeSlice 65 (.int .i64 n) (.int .i64 n)).run prog w=.ok (.slice (some ⟨w.heap.size,0,none⟩) n n) (w.alloc (lM n)):=by
 obtain⟨i0,hi,ku,js,ki⟩:=info_parts PH;have h:=run_make (P:=prog) w 65 4 i0 (.bool false) underlying65 hi ku .i64 .i64 n n (by omega) (jg _) (by rw[ki];omega) (by omega);rw[h,js];have e:madeCells (Value.bool false).cells (((n:Int).toNat)*1)=(oY (List.replicate n false)).toArray:=by
  show madeCells #[Value.bool false] (n*1)=_;rw[Nat.mul_one,hJ];simp[oY]
 rw[e];rfl
theorem four(w:World)(a b c d:Obj):((((w.alloc a).alloc b).alloc c).alloc d).heap[w.heap.size]?=some a/\((((w.alloc a).alloc b).alloc c).alloc d).heap[w.heap.size+1]?=some b/\((((w.alloc a).alloc b).alloc c).alloc d).heap[w.heap.size+1+1]?=some c/\((((w.alloc a).alloc b).alloc c).alloc d).heap[w.heap.size+1+1+1]?=some d:=by
 have s1:(w.alloc a).heap.size=w.heap.size+1:=by simp
 have s2:((w.alloc a).alloc b).heap.size=w.heap.size+1+1:=by simp
 have s3:(((w.alloc a).alloc b).alloc c).heap.size=w.heap.size+1+1+1:=by simp
 have e2:=heap_alloc_new (w.alloc a) b;have e3:=heap_alloc_new ((w.alloc a).alloc b) c;have e4:=heap_alloc_new (((w.alloc a).alloc b).alloc c) d;rw[s1]at e2;rw[s2]at e3;rw[s3]at e4;exact⟨(Below.heap_alloc _ d _ (by omega)).trans ((Below.heap_alloc _ c _ (by omega)).trans ((Below.heap_alloc _ b _ (by omega)).trans (heap_alloc_new w a))),(Below.heap_alloc _ d _ (by omega)).trans ((Below.heap_alloc _ c _ (by omega)).trans e2),(Below.heap_alloc _ d _ (by omega)).trans e3,e4⟩
theorem vu(w:World)(a b c d:Obj):Below w.heap.size w ((((w.alloc a).alloc b).alloc c).alloc d).drew:=
 (((((Below.refl _ _).alloc (Nat.le_refl _) _).alloc (by simp) _).alloc (by simp;omega) _).alloc (by simp;omega) _).drew
theorem oH(n:Nat)(hn:n<=4096):(D.zero n).Ok n:=⟨by simp[D.zero],by simp[D.zero],by simp[D.zero],hn,jg 0,jg 0⟩
theorem EP(n:Nat)(w:World)(h1:1<=n)(hn:n<=4096):
  Calls prog 52 #[.int .i64 n] w λe w'=> ∃L,e=.returned (.tuple #[dp L.b,.int .i64 0])/\aX w' L n (D.zero n)/\Below w.heap.size w w'/\(∀x∈L.fp,w.heap.size<=x):=by
 have m1:=PJ n hn;have m2:=Kb n hn;go_enter func52,ntmps52
 go_wp2
 go_region
 all_goals go_wp2
 all_goals go_ret2
 all_goals first|exact⟨⟨w.heap.size+1+1+1,w.heap.size,w.heap.size+1,w.heap.size+1+1⟩,rfl,⟨.of_eq (four w (fw n) (fw n) (lM n) (.cells (fields ⟨w.heap.size+1+1+1,w.heap.size,w.heap.size+1,w.heap.size+1+1⟩ n (D.zero n)) 149)).2.2.2,.of_eq (four w (fw n) (fw n) (lM n) (.cells (fields ⟨w.heap.size+1+1+1,w.heap.size,w.heap.size+1,w.heap.size+1+1⟩ n (D.zero n)) 149)).1,.of_eq (four w (fw n) (fw n) (lM n) (.cells (fields ⟨w.heap.size+1+1+1,w.heap.size,w.heap.size+1,w.heap.size+1+1⟩ n (D.zero n)) 149)).2.1,.of_eq (four w (fw n) (fw n) (lM n) (.cells (fields ⟨w.heap.size+1+1+1,w.heap.size,w.heap.size+1,w.heap.size+1+1⟩ n (D.zero n)) 149)).2.2.1,by dsimp only;omega,oH n hn⟩,vu w _ _ _ _,by simp[Loc.fp];omega⟩|exact⟨⟨w.heap.size+1+1+1,w.heap.size,w.heap.size+1+1,w.heap.size+1⟩,rfl,⟨.of_eq (four w (fw n) (lM n) (fw n) (.cells (fields ⟨w.heap.size+1+1+1,w.heap.size,w.heap.size+1+1,w.heap.size+1⟩ n (D.zero n)) 149)).2.2.2,.of_eq (four w (fw n) (lM n) (fw n) (.cells (fields ⟨w.heap.size+1+1+1,w.heap.size,w.heap.size+1+1,w.heap.size+1⟩ n (D.zero n)) 149)).1,.of_eq (four w (fw n) (lM n) (fw n) (.cells (fields ⟨w.heap.size+1+1+1,w.heap.size,w.heap.size+1+1,w.heap.size+1⟩ n (D.zero n)) 149)).2.2.1,.of_eq (four w (fw n) (lM n) (fw n) (.cells (fields ⟨w.heap.size+1+1+1,w.heap.size,w.heap.size+1+1,w.heap.size+1⟩ n (D.zero n)) 149)).2.1,by dsimp only;omega,oH n hn⟩,vu w _ _ _ _,by simp[Loc.fp];omega⟩|exact⟨⟨w.heap.size+1+1+1,w.heap.size+1,w.heap.size,w.heap.size+1+1⟩,rfl,⟨.of_eq (four w (fw n) (fw n) (lM n) (.cells (fields ⟨w.heap.size+1+1+1,w.heap.size+1,w.heap.size,w.heap.size+1+1⟩ n (D.zero n)) 149)).2.2.2,.of_eq (four w (fw n) (fw n) (lM n) (.cells (fields ⟨w.heap.size+1+1+1,w.heap.size+1,w.heap.size,w.heap.size+1+1⟩ n (D.zero n)) 149)).2.1,.of_eq (four w (fw n) (fw n) (lM n) (.cells (fields ⟨w.heap.size+1+1+1,w.heap.size+1,w.heap.size,w.heap.size+1+1⟩ n (D.zero n)) 149)).1,.of_eq (four w (fw n) (fw n) (lM n) (.cells (fields ⟨w.heap.size+1+1+1,w.heap.size+1,w.heap.size,w.heap.size+1+1⟩ n (D.zero n)) 149)).2.2.1,by dsimp only;omega,oH n hn⟩,vu w _ _ _ _,by simp[Loc.fp];omega⟩|exact⟨⟨w.heap.size+1+1+1,w.heap.size+1,w.heap.size+1+1,w.heap.size⟩,rfl,⟨.of_eq (four w (lM n) (fw n) (fw n) (.cells (fields ⟨w.heap.size+1+1+1,w.heap.size+1,w.heap.size+1+1,w.heap.size⟩ n (D.zero n)) 149)).2.2.2,.of_eq (four w (lM n) (fw n) (fw n) (.cells (fields ⟨w.heap.size+1+1+1,w.heap.size+1,w.heap.size+1+1,w.heap.size⟩ n (D.zero n)) 149)).2.1,.of_eq (four w (lM n) (fw n) (fw n) (.cells (fields ⟨w.heap.size+1+1+1,w.heap.size+1,w.heap.size+1+1,w.heap.size⟩ n (D.zero n)) 149)).2.2.1,.of_eq (four w (lM n) (fw n) (fw n) (.cells (fields ⟨w.heap.size+1+1+1,w.heap.size+1,w.heap.size+1+1,w.heap.size⟩ n (D.zero n)) 149)).1,by dsimp only;omega,oH n hn⟩,vu w _ _ _ _,by simp[Loc.fp];omega⟩|exact⟨⟨w.heap.size+1+1+1,w.heap.size+1+1,w.heap.size,w.heap.size+1⟩,rfl,⟨.of_eq (four w (fw n) (lM n) (fw n) (.cells (fields ⟨w.heap.size+1+1+1,w.heap.size+1+1,w.heap.size,w.heap.size+1⟩ n (D.zero n)) 149)).2.2.2,.of_eq (four w (fw n) (lM n) (fw n) (.cells (fields ⟨w.heap.size+1+1+1,w.heap.size+1+1,w.heap.size,w.heap.size+1⟩ n (D.zero n)) 149)).2.2.1,.of_eq (four w (fw n) (lM n) (fw n) (.cells (fields ⟨w.heap.size+1+1+1,w.heap.size+1+1,w.heap.size,w.heap.size+1⟩ n (D.zero n)) 149)).1,.of_eq (four w (fw n) (lM n) (fw n) (.cells (fields ⟨w.heap.size+1+1+1,w.heap.size+1+1,w.heap.size,w.heap.size+1⟩ n (D.zero n)) 149)).2.1,by dsimp only;omega,oH n hn⟩,vu w _ _ _ _,by simp[Loc.fp];omega⟩|exact⟨⟨w.heap.size+1+1+1,w.heap.size+1+1,w.heap.size+1,w.heap.size⟩,rfl,⟨.of_eq (four w (lM n) (fw n) (fw n) (.cells (fields ⟨w.heap.size+1+1+1,w.heap.size+1+1,w.heap.size+1,w.heap.size⟩ n (D.zero n)) 149)).2.2.2,.of_eq (four w (lM n) (fw n) (fw n) (.cells (fields ⟨w.heap.size+1+1+1,w.heap.size+1+1,w.heap.size+1,w.heap.size⟩ n (D.zero n)) 149)).2.2.1,.of_eq (four w (lM n) (fw n) (fw n) (.cells (fields ⟨w.heap.size+1+1+1,w.heap.size+1+1,w.heap.size+1,w.heap.size⟩ n (D.zero n)) 149)).2.1,.of_eq (four w (lM n) (fw n) (fw n) (.cells (fields ⟨w.heap.size+1+1+1,w.heap.size+1+1,w.heap.size+1,w.heap.size⟩ n (D.zero n)) 149)).1,by dsimp only;omega,oH n hn⟩,vu w _ _ _ _,by simp[Loc.fp];omega⟩
end Dk
namespace Pg
open Go.RowKit Pk Dk
attribute [local go_sem ↓] Go.wp_at_zero Go.wp_at_succ
variable{w:World}
def ct(n:Nat):Nat:=(n-2) / 4
theorem nD{L:Dk.Loc}{n:Nat}{d:D}(h:aX w L n d):
  Calls prog 136 #[dp L.b] w λe w'=>e=.returned (.int .i64 (ct n:Nat))/\w=w':=by
 have K:=xh (GI h);have hn:=h.ok.small;clear h;unfold dp at *;have e1:IntKind.i64.wrap ((n:Int)-2)=(n:Int)-2:=IntWalk.i64_in _ (by omega)
 by_cases h2:2<=n
 .obtain⟨m,rfl⟩:∃m,n=m+2:=⟨n-2,by omega⟩;have e2:IntKind.i64.wrap ((((m+2:Nat):Int)-2).tdiv 4)=((ct (m+2):Nat):Int):=by
   have:(((m+2:Nat):Int)-2)=(m:Int):=by omega
   rw[this,JJ (by omega),IntWalk.i64_in _ (by omega)];unfold ct;omega
  have h3:¬((m+2:Nat):Int)-2<0:=by omega
  have HM:=xh (show((ct (m+2):Nat):Int)=(m:Int) / 4 from by unfold ct;omega);go_enter func136,ntmps136;go_wp2_with fail;refine K.o.mono ?_;rintro e w1 ⟨rfl,rfl⟩;go_wp2_with fail
  all_goals
   go_ret;refine⟨?_,rfl⟩;rw[HM.o]
   first|(simp;done)|(simp;omega)
 .have h3:(n:Int)-2<0:=by omega
  have HM:=xh (show((ct n:Nat):Int)=0 from by unfold ct;omega);go_enter func136,ntmps136;go_wp2_with fail;refine K.o.mono ?_;rintro e w1 ⟨rfl,rfl⟩;go_wp2_with fail;go_ret;refine⟨?_,rfl⟩;rw[HM.o]
  first|(simp;done)|(simp;omega)
def pN(k:Nat):List Value:=[.int .i64 (k:Nat),.int .i64 ((k:Int)+1),.int .i64 ((k:Int)+2),.int .i64 ((k:Int)+3)]
def nh(k i:Nat):List Value:=(pN k).take i++List.replicate (4-i) (.int .i64 0)
theorem dJ{fn:Func}{p:Tmp}{ty:TypeId}(h:fn.results= #[.cell p ty])(tmps:Array Value)(P:Program)(w:World):
  (results fn tmps).run P w=((asAddr (tmps.getD p undef)).run P w).andThen λa w₁=>(loadVar ty a).run P w₁:=by
 simp only[results,h];simp[Sem.run_bind,Result.andThen]
theorem Tk{fn:Func}{p:Tmp}{g:Nat}{a b c d:Int}{tmps:Array Value}(h:fn.results= #[.cell p 244])(hp:tmps.getD p undef=.pointer (some ⟨g,0,none⟩))(B:aF w g 244 #[.int .i64 a,.int .i64 b,.int .i64 c,.int .i64 d]):
  (results fn tmps).run prog w=.ok (.agg #[.int .i64 a,.int .i64 b,.int .i64 c,.int .i64 d]) w:=by
 have c0:=B.ab (i:=0) rfl;have c1:=B.ab (i:=1) rfl;have c2:=B.ab (i:=2) rfl;have c3:=B.ab (i:=3) rfl;rw[dJ h,hp];clear h hp B;go_simp
theorem oI(id:Nat)(h:id<=1023):
  Calls prog 184 #[.int .i64 (id:Nat)] w λe w'=>e=.returned (.agg (pN (2+4*id)).toArray)/\Below w.heap.size w w':=by
 have e1:IntKind.i64.wrap ((id:Int)*4)=(id:Int)*4:=IntWalk.i64_in _ (by omega);have e2:IntKind.i64.wrap (2+(id:Int)*4)=2+(id:Int)*4:=IntWalk.i64_in _ (by omega);have Z:∀i:Nat,i<=3->IntKind.i64.wrap (2+(id:Int)*4+(i:Int))=2+(id:Int)*4+(i:Int):=λi hi=>IntWalk.i64_in _ (by omega);have y0:=Z 0 (by omega);have y1:=Z 1 (by omega);have y2:=Z 2 (by omega);have y3:=Z 3 (by omega);clear Z;have q0:Value.int .i64 (2+(id:Int)*4)= .int .i64 ((2+4*id:Nat):Int):=by congr 1;omega
 have q1:Value.int .i64 (2+(id:Int)*4+1)= .int .i64 (((2+4*id:Nat):Int)+1):=by congr 1;omega
 have q2:Value.int .i64 (2+(id:Int)*4+2)= .int .i64 (((2+4*id:Nat):Int)+2):=by congr 1;omega
 have q3:Value.int .i64 (2+(id:Int)*4+3)= .int .i64 (((2+4*id:Nat):Int)+3):=by congr 1;omega
 have Q:=xh (And.intro q0 (And.intro q1 (And.intro q2 q3)));clear q0 q1 q2 q3;have B0:=xh ((aF.new w 244 #[.int .i64 0,.int .i64 0,.int .i64 0,.int .i64 0]).alloc (.cells #[.int .i64 0,.int .i64 0,.int .i64 0,.int .i64 0] 244));have C0:=aF.new (w.alloc (.cells #[.int .i64 0,.int .i64 0,.int .i64 0,.int .i64 0] 244)) 244 #[.int .i64 0,.int .i64 0,.int .i64 0,.int .i64 0]
 rw[show(w.alloc (.cells #[.int .i64 0,.int .i64 0,.int .i64 0,.int .i64 0] 244)).heap.size=w.heap.size+1 from by simp]at C0;have C0:=xh C0;have O0:=xh (ae (ae (Below.refl w.heap.size w) (.cells #[.int .i64 0,.int .i64 0,.int .i64 0,.int .i64 0] 244)) (.cells #[.int .i64 0,.int .i64 0,.int .i64 0,.int .i64 0] 244));go_enter func184,ntmps184;go_wp2_with fail
 go_loopw [5] (λiv wr=> ∃i:Nat,i<=4/\iv=.int .i64 i/\Hid (aF wr (w.heap.size+1) 244 (nh (2+4*id) i).toArray)/\Hid (aF wr w.heap.size 244 #[.int .i64 0,.int .i64 0,.int .i64 0,.int .i64 0])/\Hid (Below w.heap.size w wr)) (λiv _=>4-(intOf iv).toNat)
 case atStart=>exact⟨0,by omega,rfl,C0,B0,O0⟩
 case round=>
  obtain⟨i,hi,rfl,C,B,O⟩:=hrel;have ii:i=0\/i=1\/i=2\/i=3\/i=4:=by omega
  have z0:=C.o.frozen 0 (by rcases ii with rfl|rfl|rfl|rfl|rfl<;>simp[nh,pN]);have z1:=C.o.frozen 1 (by rcases ii with rfl|rfl|rfl|rfl|rfl<;>simp[nh,pN]);have z2:=C.o.frozen 2 (by rcases ii with rfl|rfl|rfl|rfl|rfl<;>simp[nh,pN]);have z3:=C.o.frozen 3 (by rcases ii with rfl|rfl|rfl|rfl|rfl<;>simp[nh,pN])
  rcases ii with rfl|rfl|rfl|rfl|rfl
  .have c0:=C.o.ab (i:=0) (v:= .int .i64 0) rfl;have C2:=xh (show aF (wr.setCell ⟨w.heap.size+1,0,none⟩ (.int .i64 (2+(id:Int)*4))) (w.heap.size+1) 244 (nh (2+4*id) 1).toArray from by
    have h:=C.o.bU 0 (.int .i64 (2+(id:Int)*4));rw[Q.o.1]at h ⊢;exact h)
   have B2:=xh (B.o.aQ (p:=⟨w.heap.size+1,0,none⟩) (by simp) (.int .i64 (2+(id:Int)*4)));have O2:=xh (O.o.setCell (p:=⟨w.heap.size+1,0,none⟩) (by simp) (.int .i64 (2+(id:Int)*4)));go_wp2_with fail;go_roundw
   case rel=>exact⟨1,by omega,by first|rfl|simp,C2,B2,O2⟩
   case measure=>first|decide|simp[intOf]
  .have c0:=C.o.ab (i:=1) (v:= .int .i64 0) rfl;have C2:=xh (show aF (wr.setCell ⟨w.heap.size+1,1,none⟩ (.int .i64 (2+(id:Int)*4+1))) (w.heap.size+1) 244 (nh (2+4*id) 2).toArray from by
    have h:=C.o.bU 1 (.int .i64 (2+(id:Int)*4+1));rw[Q.o.2.1]at h ⊢;exact h)
   have B2:=xh (B.o.aQ (p:=⟨w.heap.size+1,1,none⟩) (by simp) (.int .i64 (2+(id:Int)*4+1)));have O2:=xh (O.o.setCell (p:=⟨w.heap.size+1,1,none⟩) (by simp) (.int .i64 (2+(id:Int)*4+1)));go_wp2_with fail;go_roundw
   case rel=>exact⟨2,by omega,by first|rfl|simp,C2,B2,O2⟩
   case measure=>first|decide|simp[intOf]
  .have c0:=C.o.ab (i:=2) (v:= .int .i64 0) rfl;have C2:=xh (show aF (wr.setCell ⟨w.heap.size+1,2,none⟩ (.int .i64 (2+(id:Int)*4+2))) (w.heap.size+1) 244 (nh (2+4*id) 3).toArray from by
    have h:=C.o.bU 2 (.int .i64 (2+(id:Int)*4+2));rw[Q.o.2.2.1]at h ⊢;exact h)
   have B2:=xh (B.o.aQ (p:=⟨w.heap.size+1,2,none⟩) (by simp) (.int .i64 (2+(id:Int)*4+2)));have O2:=xh (O.o.setCell (p:=⟨w.heap.size+1,2,none⟩) (by simp) (.int .i64 (2+(id:Int)*4+2)));go_wp2_with fail;go_roundw
   case rel=>exact⟨3,by omega,by first|rfl|simp,C2,B2,O2⟩
   case measure=>first|decide|simp[intOf]
  .have c0:=C.o.ab (i:=3) (v:= .int .i64 0) rfl;have C2:=xh (show aF (wr.setCell ⟨w.heap.size+1,3,none⟩ (.int .i64 (2+(id:Int)*4+3))) (w.heap.size+1) 244 (nh (2+4*id) 4).toArray from by
    have h:=C.o.bU 3 (.int .i64 (2+(id:Int)*4+3));rw[Q.o.2.2.2]at h ⊢;exact h)
   have B2:=xh (B.o.aQ (p:=⟨w.heap.size+1,3,none⟩) (by simp) (.int .i64 (2+(id:Int)*4+3)));have O2:=xh (O.o.setCell (p:=⟨w.heap.size+1,3,none⟩) (by simp) (.int .i64 (2+(id:Int)*4+3)));go_wp2_with fail;go_roundw
   case rel=>exact⟨4,by omega,by first|rfl|simp,C2,B2,O2⟩
   case measure=>first|decide|simp[intOf]
  .have c0:=C.o.ab (i:=0) rfl;have c1:=C.o.ab (i:=1) rfl;have c2:=C.o.ab (i:=2) rfl;have c3:=C.o.ab (i:=3) rfl;have b0:=B.o.ab (i:=0) rfl;have b1:=B.o.ab (i:=1) rfl;have b2:=B.o.ab (i:=2) rfl;have b3:=B.o.ab (i:=3) rfl;have x0:=B.o.frozen 0 (by simp);have x1:=B.o.frozen 1 (by simp);have x2:=B.o.frozen 2 (by simp);have x3:=B.o.frozen 3 (by simp)
   have ZB:=xh ((((B.o.bU 0 (.int .i64 ((2+4*id:Nat):Int))).bU 1 (.int .i64 (((2+4*id:Nat):Int)+1))).bU 2 (.int .i64 (((2+4*id:Nat):Int)+2))).bU 3 (.int .i64 (((2+4*id:Nat):Int)+3)))
   have ZO:=xh ((((O.o.setCell (p:=⟨w.heap.size,0,none⟩) (Nat.le_refl _) (.int .i64 ((2+4*id:Nat):Int))).setCell (p:=⟨w.heap.size,1,none⟩) (Nat.le_refl _) (.int .i64 (((2+4*id:Nat):Int)+1))).setCell (p:=⟨w.heap.size,2,none⟩) (Nat.le_refl _) (.int .i64 (((2+4*id:Nat):Int)+2))).setCell (p:=⟨w.heap.size,3,none⟩) (Nat.le_refl _) (.int .i64 (((2+4*id:Nat):Int)+3)))
   simp only[nh,pN,fM,Ew,jh,cr,fo,yY,Nat.le_refl,List.getElem_cons_zero,List.getElem_cons_succ,List.getElem_toArray]at c0 c1 c2 c3;generalize hKK:((2+4*id:Nat):Int)=K at *;have Gq:=xh hKK;clear hKK;go_wp2_with fail;exact bodyPost_ret (Tk rfl rfl ZB.o) rfl ⟨by unfold pN;rw[Gq.o],ZO.o⟩
variable{d:D}{n:Nat}
theorem vv(d:D)(h:d.bn<=9223372036854775807):d.cF.1.calls=d.calls+1/\d.cF.1.bn<=9223372036854775807:=by
 unfold D.cF
 split
 .exact⟨rfl,h⟩
 .split
  .exact⟨rfl,by show(0:Int)<=_;omega⟩
  .exact⟨rfl,by show d.bn-1<=_;omega⟩
theorem zi(d:D)(i:Nat):(d.il i).calls=d.calls/\(d.il i).bn=d.bn:=by unfold D.il;split<;>exact⟨rfl,rfl⟩
theorem iR(d:D)(n:Nat)(i:Int)(s:List UInt8)(h:d.bn<=9223372036854775807):(d.aA n i s).1.calls<=d.calls+1/\(d.aA n i s).1.bn<=9223372036854775807:=by
 unfold D.aA
 split
 .have h1:(d.du i.toNat s).calls=d.calls:=(zi d i.toNat).1;have h2:(d.du i.toNat s).bn=d.bn:=(zi d i.toNat).2;have:=vv (d.du i.toNat s) (by omega);omega
 .exact⟨by show d.calls<=_;omega,h⟩
def w4(d:D)(n k:Nat)(b:List UInt8):Nat->D×Int
 |0=>(d,0)
 |i+1=>if(w4 d n k b i).2=0 then(w4 d n k b i).1.aA n ((k:Int)+i) ((b.drop (64*i)).take 64)else w4 d n k b i
theorem Tm(d:D)(n k:Nat)(b:List UInt8)(i:Nat)(h:(w4 d n k b i).2=0):w4 d n k b (i+1)=(w4 d n k b i).1.aA n ((k:Int)+i) ((b.drop (64*i)).take 64):=by
 show(if _ then _ else _)=_;rw[if_pos h]
theorem NH(d:D)(n k:Nat)(b:List UInt8)(i j:Nat)(h:(w4 d n k b i).2≠0)(hj:i<=j):w4 d n k b j=w4 d n k b i:=by
 induction j with
 |zero=>rw[show i=0 by omega]
 |succ j ih=>
  by_cases e:i=j+1
  .rw[e]
  .have:=ih (by omega);show(if _ then _ else _)=_;rw[this,if_neg h]
theorem Tn(d:D)(n k:Nat)(b:List UInt8)(h:d.bn<=9223372036854775807):∀i,(w4 d n k b i).1.calls<=d.calls+i/\(w4 d n k b i).1.bn<=9223372036854775807
 |0=>⟨by simp[w4],h⟩
 |i+1=>by
  obtain⟨h1,h2⟩:=Tn d n k b h i;unfold w4
  split
  .have:=iR (w4 d n k b i).1 n ((k:Int)+i) ((b.drop (64*i)).take 64) h2;omega
  .omega
theorem zj(h:d.Ok n)(k:Nat)(b:List UInt8):∀i,(w4 d n k b i).1.Ok n
 |0=>h
 |i+1=>by
  unfold w4
  split
  .exact(zj h k b i).write _ _
  .exact zj h k b i
def bm(d:D)(n:Nat)(id ep kd:Int)(s:List UInt8):D×Int:=
 if(du id ep kd s).2≠0 then(d,(du id ep kd s).2)
 else if(ct n:Int)<=id then(d,3)
 else w4 d n (2+4*id.toNat) (du id ep kd s).1 4
theorem qS(d:D)(n:Nat)(id ep kd:Int)(s:List UInt8)(h:d.bn<=9223372036854775807):(bm d n id ep kd s).1.calls<=d.calls+4/\(bm d n id ep kd s).1.bn<=9223372036854775807:=by
 unfold bm
 split
 .exact⟨by show d.calls<=_;omega,h⟩
 .split
  .exact⟨by show d.calls<=_;omega,h⟩
  .exact Tn d n _ _ h 4
theorem zk{id ep kd:Int}{s:List UInt8}(h:(du id ep kd s).2=0):(du id ep kd s).1.length=256/\J7 id ep kd=true:=by
 unfold du at h ⊢
 split at h
 .rename_i fT;rw[if_pos fT]
  split at h
  .simp at h
  .rename_i hs;rw[if_neg hs];have h1:(eO (lu id ep kd s) 252).length=252:=by
    have:(lu id ep kd s).length=20+s.length:=by unfold lu;simp[fS,oE];omega
    unfold eO;rw[aO,ev];omega
   refine⟨?_,fT⟩;show(km id ep kd s).length=256;unfold km jB.bH;rw[aO,h1];simp[jB.iX]
 .simp at h
theorem CF{w:World}{L:Dk.Loc}(h:aX w L n d)(id ep kd:Int)(s:ByteArray)(hid:id<=9223372036854775807)(he:(du id ep kd s.data.toList).2≠0\/(ct n:Int)<=id):
  Calls prog 225 #[dp L.b,iZ id ep kd s] w λe w'=>e=.returned (.int .i64 (bm d n id ep kd s.data.toList).2)/\aX w' L n (bm d n id ep kd s.data.toList).1/\Below w.heap.size w w':=by
 have O0:=xh (ae (Below.refl w.heap.size w) (.cells #[.int .i64 id,.int .i64 ep,.int .i64 kd,.string s] 162));have B0:=xh (aF.new w 162 #[.int .i64 id,.int .i64 ep,.int .i64 kd,.string s]);have K:=xh (λw=>GF (w:=w) id ep kd s hid);have KM:=xh (λw' (hb:Below w.heap.size w w')=>nD (h.below hb));have HD:=xh h;have c0:=B0.o.ab (i:=0) rfl;have c1:=B0.o.ab (i:=1) rfl;have c2:=B0.o.ab (i:=2) rfl
 have c3:=B0.o.ab (i:=3) rfl;have CH:((du id ep kd s.data.toList).2≠0/\bm d n id ep kd s.data.toList=(d,(du id ep kd s.data.toList).2))\/((du id ep kd s.data.toList).2=0/\(ct n:Int)<=id/\bm d n id ep kd s.data.toList=(d,3)):=by
  by_cases h1:(du id ep kd s.data.toList).2=0
  .have h2:=he.resolve_left (λh=>h h1);right;refine⟨h1,h2,?_⟩;unfold bm;rw[if_neg (by simpa using h1),if_pos h2]
  .left;refine⟨h1,?_⟩;unfold bm;rw[if_pos h1]
 generalize (du id ep kd s.data.toList).2=er at *;generalize (⟨(du id ep kd s.data.toList).1.toArray⟩:ByteArray)=S at *;generalize bm d n id ep kd s.data.toList=R at *;generalize ct n=mn at *;clear h he;unfold iZ dp at *
 rcases CH with⟨h1,h2⟩|⟨h1,h3,h2⟩
 .subst h2;have hb:(er != 0)=true:=by rw[bne_iff_ne];exact h1
  go_enter func225,ntmps225;go_wp2_with fail;refine(K.o _).mono ?_;rintro e w1 ⟨rfl,bg⟩;have O1:=xh (aC O0.o bg);clear bg;go_wp2_with fail;go_ret;exact⟨rfl,HD.o.below O1.o,O1.o⟩
 .subst h2;subst h1;go_enter func225,ntmps225;go_wp2_with fail;refine(K.o _).mono ?_;rintro e w1 ⟨rfl,bg⟩;have O1:=xh (aC O0.o bg);have B1:=xh (B0.o.below bg B0.o.lt);clear bg c0 c1 c2 c3;have c0:=B1.o.ab (i:=0) rfl;go_wp2_with fail;have KX:=xh (λm=>KM.o (w1.drewN m) (df O1.o m));go_quiet ((go_at_call 136;exact y9 (KX.o _)));go_wp2_with fail;go_ret;exact⟨rfl,HD.o.below (df O1.o _),df O1.o _⟩
variable{w:World}{L:Dk.Loc}{n:Nat}{d:D}
theorem ER(a0 a1 a2 a3:Int)(w:World)(k:Nat)(x:Value)(hx: #[Value.int .i64 a0,.int .i64 a1,.int .i64 a2,.int .i64 a3][k]?=some x):
  (Instr.index 244 (.agg #[.int .i64 a0,.int .i64 a1,.int .i64 a2,.int .i64 a3]) (.int .i64 (k:Int))).run prog w=.ok x w:=by
 have hu:prog.underlying 244=some (.array 4 3):=by kernel_rfl
 have hm:(prog.info? 3).map (·.size)=some 1:=by kernel_rfl
 have hp:prog.plainKey 3=true:=by kernel_rfl
 have hk:k<4:=by
  rcases dX k 4 with h|h
  .exact h
  .rw[Sj (by simpa using h)]at hx;cases hx
 cases hq:prog.info? 3 with
 |none=>simp[hq]at hm
 |some i=>
  simp only[hq,k6,Option.some.injEq]at hm;have:=run_part_plain (P:=prog) w hp hx;simp[Instr.index,asIntOf,run_underlying hu,hk,sizeOf,typeInfo,hq,hm];exact this
theorem Kc(h:aX w L n d)(id:Nat)(ep kd:Int)(s:ByteArray)(hp:(du id ep kd s.data.toList).2=0)(hm:id<ct n)(hc:d.calls<=3999999999999999990)(hr:d.bn<=9223372036854775807):
  Calls prog 225 #[dp L.b,iZ id ep kd s] w λe w'=>e=.returned (.int .i64 (w4 d n (2+4*id) (du id ep kd s.data.toList).1 4).2)/\aX w' L n (w4 d n (2+4*id) (du id ep kd s.data.toList).1 4).1/\ag L.fp w w':=by
 have hn:=h.ok.small;have hmn:ct n<=1023:=by unfold ct;omega
 have O0:=xh (ae (Below.refl w.heap.size w) (.cells #[.int .i64 (id:Nat),.int .i64 ep,.int .i64 kd,.string s] 162));have B0:=xh (aF.new w 162 #[.int .i64 (id:Nat),.int .i64 ep,.int .i64 kd,.string s]);have K:=λw=>GF (w:=w) id ep kd s (by omega);have hlen:=(zk hp).1;rw[hp]at K;obtain⟨T,hT⟩:∃T:ByteArray,(⟨(du id ep kd s.data.toList).1.toArray⟩:ByteArray)=T:=⟨_,rfl⟩;rw[hT]at K;have JD:T.data.toList=(du id ep kd s.data.toList).1:=by rw[<-hT]
 have hTs:T.size=256:=by rw[<-hT,iz,hlen]
 rw[<-JD];have HX:=xh (show ∀i:Nat,(T.extract (64*i) (64*(i+1))).data.toList=(T.data.toList.drop (64*i)).take 64 from λi=>by rw[exl,show 64*(i+1)-64*i=64 by omega]);have K:=xh K;have KM:=xh (λw' (hb:Below w.heap.size w w')=>nD (h.below hb));have KS:=xh (λw=>oI (w:=w) id (by omega));have HB:=xh (Tn d n (2+4*id) T.data.toList hr);have H4:=xh (Tm d n (2+4*id) T.data.toList);have HS:=xh (NH d n (2+4*id) T.data.toList)
 have HC:=xh hc;have HD:=xh h;have hmI:¬((ct n:Nat):Int)<=(id:Int):=by omega
 have c0:=B0.o.ab (i:=0) rfl;have c1:=B0.o.ab (i:=1) rfl;have c2:=B0.o.ab (i:=2) rfl;have c3:=B0.o.ab (i:=3) rfl;generalize ct n=mn at *;clear h hp hT JD hlen hc hr;unfold iZ dp pN at *;generalize hk:2+4*id=k at *;clear hk;go_enter func225,ntmps225;go_wp2_with fail;refine(K.o _).mono ?_;rintro e w1 ⟨rfl,bg⟩;have O1:=xh (aC O0.o bg);have B1:=xh (B0.o.below bg B0.o.lt);clear bg c0 c1 c2 c3 K
 have c0:=B1.o.ab (i:=0) rfl;have KX:=xh (λm=>KM.o (w1.drewN m) (df O1.o m));go_wp2_with fail;go_quiet ((go_at_call 136;exact y9 (KX.o _)));have O2:=xh (df O1.o nq);have B2:=xh (B1.o.drewN nq);generalize ES:w1.drewN nq=w2 at *;clear c0 O1 B1 ES KX KM;have c0:=B2.o.ab (i:=0) rfl;go_wp2_with fail;refine(KS.o _).mono ?_;rintro e w3 ⟨rfl,gr⟩;have O3:=xh (aC O2.o gr);have D3:=xh (HD.o.below O3.o)
 clear gr c0 KS O2 B2;go_wp2_with fail
 go_loopw [30] (λiv wr=> ∃i:Nat,i<=4/\iv=.int .i64 i/\Hid (aX wr L n (w4 d n k T.data.toList i).1)/\Hid ((w4 d n k T.data.toList i).2=0)/\Hid (ag L.fp w wr)) (λiv _=>4-(intOf iv).toNat)
 case atStart=>exact⟨0,by omega,rfl,D3,xh rfl,xh (.ai O3.o)⟩
 case round=>
  obtain⟨i,hi,rfl,DD,EZ,O⟩:=hrel;have ii:i=0\/i=1\/i=2\/i=3\/i=4:=by omega
  rcases ii with rfl|rfl|rfl|rfl|rfl
  .have bd:=HB.o 0;have KW:=kz DD.o ((k:Int)) (T.extract 0 64) (by have:=HC.o;omega) (by omega);have hx:=HX.o 0;have h4:=H4.o 0 EZ.o;rw[show(T.extract 0 64).data.toList=(T.data.toList.drop (64*0)).take 64 from hx,show((k:Int))=(k:Int)+((0:Nat):Int)from by omega,<-h4,show(k:Int)+((0:Nat):Int)=(k:Int)from by omega]at KW;have KW:=xh KW;clear hx h4 bd
   have IX:=xh (show(Instr.index 244 (.agg #[.int .i64 (k:Int),.int .i64 ((k:Int)+1),.int .i64 ((k:Int)+2),.int .i64 ((k:Int)+3)]) (.int .i64 0)).run prog wr=.ok (.int .i64 ((k:Int))) wr from ER (k:Int) ((k:Int)+1) ((k:Int)+2) ((k:Int)+3) wr 0 _ rfl);go_wp2_with fail;rw[IX.o];go_wp2_with fail;refine KW.o.mono ?_;rintro e wz ⟨rfl,dd,oz⟩;have DZ:=xh dd;have OZ:=xh (O.o.trans oz);clear dd oz KW
   by_cases hz:(w4 d n k T.data.toList 1).2=0
   .have HZ:=xh hz;have hq:((w4 d n k T.data.toList 1).2 != 0)=false:=by rw[hz];rfl
    clear hz;go_wp2_with fail;go_roundw
    case rel=>exact⟨1,by omega,by first|rfl|simp,DZ,HZ,OZ⟩
    case measure=>first|decide|simp[intOf]
   .have hs:=HS.o 1 4 hz (by omega);have Tp:=xh hs;have hq:((w4 d n k T.data.toList 1).2 != 0)=true:=by rw[bne_iff_ne];exact hz
    clear hz hs;go_wp2_with fail;go_ret;exact⟨by first|rfl|(rw[Tp.o];rfl),by first|exact DZ.o|(rw[Tp.o];exact DZ.o),OZ.o⟩
  .have bd:=HB.o 1;have KW:=kz DD.o ((k:Int)+1) (T.extract 64 128) (by have:=HC.o;omega) (by omega);have hx:=HX.o 1;have h4:=H4.o 1 EZ.o;rw[show(T.extract 64 128).data.toList=(T.data.toList.drop (64*1)).take 64 from hx,show((k:Int)+1)=(k:Int)+((1:Nat):Int)from by omega,<-h4,show(k:Int)+((1:Nat):Int)=(k:Int)+1 from by omega]at KW;have KW:=xh KW;clear hx h4 bd
   have IX:=xh (show(Instr.index 244 (.agg #[.int .i64 (k:Int),.int .i64 ((k:Int)+1),.int .i64 ((k:Int)+2),.int .i64 ((k:Int)+3)]) (.int .i64 1)).run prog wr=.ok (.int .i64 ((k:Int)+1)) wr from ER (k:Int) ((k:Int)+1) ((k:Int)+2) ((k:Int)+3) wr 1 _ rfl);go_wp2_with fail;rw[IX.o];go_wp2_with fail;refine KW.o.mono ?_;rintro e wz ⟨rfl,dd,oz⟩;have DZ:=xh dd;have OZ:=xh (O.o.trans oz);clear dd oz KW
   by_cases hz:(w4 d n k T.data.toList 2).2=0
   .have HZ:=xh hz;have hq:((w4 d n k T.data.toList 2).2 != 0)=false:=by rw[hz];rfl
    clear hz;go_wp2_with fail;go_roundw
    case rel=>exact⟨2,by omega,by first|rfl|simp,DZ,HZ,OZ⟩
    case measure=>first|decide|simp[intOf]
   .have hs:=HS.o 2 4 hz (by omega);have Tp:=xh hs;have hq:((w4 d n k T.data.toList 2).2 != 0)=true:=by rw[bne_iff_ne];exact hz
    clear hz hs;go_wp2_with fail;go_ret;exact⟨by first|rfl|(rw[Tp.o];rfl),by first|exact DZ.o|(rw[Tp.o];exact DZ.o),OZ.o⟩
  .have bd:=HB.o 2;have KW:=kz DD.o ((k:Int)+2) (T.extract 128 192) (by have:=HC.o;omega) (by omega);have hx:=HX.o 2;have h4:=H4.o 2 EZ.o;rw[show(T.extract 128 192).data.toList=(T.data.toList.drop (64*2)).take 64 from hx,show((k:Int)+2)=(k:Int)+((2:Nat):Int)from by omega,<-h4,show(k:Int)+((2:Nat):Int)=(k:Int)+2 from by omega]at KW;have KW:=xh KW;clear hx h4 bd
   have IX:=xh (show(Instr.index 244 (.agg #[.int .i64 (k:Int),.int .i64 ((k:Int)+1),.int .i64 ((k:Int)+2),.int .i64 ((k:Int)+3)]) (.int .i64 2)).run prog wr=.ok (.int .i64 ((k:Int)+2)) wr from ER (k:Int) ((k:Int)+1) ((k:Int)+2) ((k:Int)+3) wr 2 _ rfl);go_wp2_with fail;rw[IX.o];go_wp2_with fail;refine KW.o.mono ?_;rintro e wz ⟨rfl,dd,oz⟩;have DZ:=xh dd;have OZ:=xh (O.o.trans oz);clear dd oz KW
   by_cases hz:(w4 d n k T.data.toList 3).2=0
   .have HZ:=xh hz;have hq:((w4 d n k T.data.toList 3).2 != 0)=false:=by rw[hz];rfl
    clear hz;go_wp2_with fail;go_roundw
    case rel=>exact⟨3,by omega,by first|rfl|simp,DZ,HZ,OZ⟩
    case measure=>first|decide|simp[intOf]
   .have hs:=HS.o 3 4 hz (by omega);have Tp:=xh hs;have hq:((w4 d n k T.data.toList 3).2 != 0)=true:=by rw[bne_iff_ne];exact hz
    clear hz hs;go_wp2_with fail;go_ret;exact⟨by first|rfl|(rw[Tp.o];rfl),by first|exact DZ.o|(rw[Tp.o];exact DZ.o),OZ.o⟩
  .have bd:=HB.o 3;have KW:=kz DD.o ((k:Int)+3) (T.extract 192 256) (by have:=HC.o;omega) (by omega);have hx:=HX.o 3;have h4:=H4.o 3 EZ.o;rw[show(T.extract 192 256).data.toList=(T.data.toList.drop (64*3)).take 64 from hx,show((k:Int)+3)=(k:Int)+((3:Nat):Int)from by omega,<-h4,show(k:Int)+((3:Nat):Int)=(k:Int)+3 from by omega]at KW;have KW:=xh KW;clear hx h4 bd
   have IX:=xh (show(Instr.index 244 (.agg #[.int .i64 (k:Int),.int .i64 ((k:Int)+1),.int .i64 ((k:Int)+2),.int .i64 ((k:Int)+3)]) (.int .i64 3)).run prog wr=.ok (.int .i64 ((k:Int)+3)) wr from ER (k:Int) ((k:Int)+1) ((k:Int)+2) ((k:Int)+3) wr 3 _ rfl);go_wp2_with fail;rw[IX.o];go_wp2_with fail;refine KW.o.mono ?_;rintro e wz ⟨rfl,dd,oz⟩;have DZ:=xh dd;have OZ:=xh (O.o.trans oz);clear dd oz KW
   by_cases hz:(w4 d n k T.data.toList 4).2=0
   .have HZ:=xh hz;have hq:((w4 d n k T.data.toList 4).2 != 0)=false:=by rw[hz];rfl
    clear hz;go_wp2_with fail;go_roundw
    case rel=>exact⟨4,by omega,by first|rfl|simp,DZ,HZ,OZ⟩
    case measure=>first|decide|simp[intOf]
   .have hs:=HS.o 4 4 hz (by omega);have Tp:=xh hs;have hq:((w4 d n k T.data.toList 4).2 != 0)=true:=by rw[bne_iff_ne];exact hz
    clear hz hs;go_wp2_with fail;go_ret;exact⟨by first|rfl|(rw[Tp.o];rfl),by first|exact DZ.o|(rw[Tp.o];exact DZ.o),OZ.o⟩
  .go_wp2_with fail;go_ret;exact⟨by rw[EZ.o];rfl,DD.o,O.o⟩
theorem Kd(h:aX w L n d)(id ep kd:Int)(s:ByteArray)(hid:id<=9223372036854775807)(hc:d.calls<=3999999999999999990)(hr:d.bn<=9223372036854775807):
  Calls prog 225 #[dp L.b,iZ id ep kd s] w λe w'=>e=.returned (.int .i64 (bm d n id ep kd s.data.toList).2)/\aX w' L n (bm d n id ep kd s.data.toList).1/\ag L.fp w w':=by
 by_cases hp:(du id ep kd s.data.toList).2=0
 .by_cases hm:(ct n:Int)<=id
  .exact(CF h id ep kd s hid (.inr hm)).mono λe w' hx=>⟨hx.1,hx.2.1,.ai hx.2.2⟩
  .have fT:=(oA id ep kd).1 (zk hp).2;obtain⟨a,rfl⟩:=eT fT.1;have e1:bm d n a ep kd s.data.toList=w4 d n (2+4*a) (du a ep kd s.data.toList).1 4:=by
    unfold bm;rw[if_neg (by simpa using hp),if_neg hm];rfl
   rw[e1];exact Kc h a ep kd s hp (by omega) hc hr
 .exact(CF h id ep kd s hid (.inl hp)).mono λe w' hx=>⟨hx.1,hx.2.1,.ai hx.2.2⟩
attribute [local go_sem ↓] vq
variable{w:World}{L:Dk.Loc}{n:Nat}{d:D}
def bs(d:D)(n:Nat)(id:Int):PG×Int:=
 if id<0\/(ct n:Int)<=id then(.zero,3)
 else if d.down=true then(.zero,13)
 else if(jC ((d.now.drop (64*(2+4*id.toNat))).take 256)).2≠0 then(.zero,(jC ((d.now.drop (64*(2+4*id.toNat))).take 256)).2)
 else if(jC ((d.now.drop (64*(2+4*id.toNat))).take 256)).1.id≠id then(.zero,14)
 else((jC ((d.now.drop (64*(2+4*id.toNat))).take 256)).1,0)
theorem pO(F:List UInt8)(k i:Nat):(F.drop (64*k)).take (64*(i+1))=(F.drop (64*k)).take (64*i)++sec F (k+i):=by
 unfold sec;rw[show 64*(i+1)=64*i+64 by omega,List.take_add,ix,show 64*k+64*i=64*(k+i) by omega]
theorem ET(d:D)(n:Nat)(k:Nat)(h:k<n):d.jD n k=if d.down=true then 13 else 0:=by
 unfold D.jD;rw[if_pos (show 0<=(k:Int)/\(k:Int)<n by omega)]
theorem Ke(d:D)(n:Nat)(k:Nat)(h:k<n)(hd:d.down=true):d.aK n k=([],13):=by
 unfold D.aK;rw[ET d n k h,if_pos hd];rfl
theorem Tq(d:D)(n:Nat)(k:Nat)(h:k<n)(hd:d.down=false):d.aK n k=(sec d.now k,0):=by
 unfold D.aK;rw[ET d n k h];simp[hd]
theorem PK(b:Nat)(id:Int)(h:id<0):
  Calls prog 139 #[dp b,.int .i64 id] w λe w'=>e=.returned (.tuple #[PG.zero.val,.int .i64 3])/\Below w.heap.size w w':=by
 have B0:=xh (aF.new w 162 jU);have O0:=xh (ae (Below.refl w.heap.size w) (.cells jU 162));unfold dp;go_enter func139,ntmps139;go_wp2_with fail;exact bodyPost_ret (dS rfl rfl B0.o) rfl ⟨rfl,O0.o⟩
theorem PL(hd:aX w L n d)(id:Int)(h0:0<=id)(h:(ct n:Int)<=id):
  Calls prog 139 #[dp L.b,.int .i64 id] w λe w'=>e=.returned (.tuple #[PG.zero.val,.int .i64 3])/\Below w.heap.size w w':=by
 have B0:=xh (aF.new w 162 jU);have O0:=ae (Below.refl w.heap.size w) (.cells jU 162);have K:=xh (nD (hd.below O0));have O0:=xh O0;have h1:¬id<0:=by omega
 clear hd;have z0:=B0.o.frozen 0 (by simp);have z1:=B0.o.frozen 1 (by simp);have z2:=B0.o.frozen 2 (by simp);have z3:=B0.o.frozen 3 (by simp);have c0:=B0.o.ab (i:=0) rfl;have c1:=B0.o.ab (i:=1) rfl;have c2:=B0.o.ab (i:=2) rfl;have c3:=B0.o.ab (i:=3) rfl;have ZB:=xh (ky B0.o rfl 0 0 0 ⟨#[]⟩);have ZO:=xh (fV O0.o (Nat.le_refl _) 0 0 0 ⟨#[]⟩);unfold dp at *;go_enter func139,ntmps139;go_wp2_with fail
 refine K.o.mono ?_;rintro e w1 ⟨rfl,rfl⟩;go_wp2_with fail;exact bodyPost_ret (dS rfl rfl B0.o) rfl ⟨rfl,O0.o⟩
theorem Kf(hd:aX w L n d)(id:Nat)(h:id<ct n)(hdn:d.down=true):
  Calls prog 139 #[dp L.b,.int .i64 (id:Nat)] w λe w'=>e=.returned (.tuple #[PG.zero.val,.int .i64 13])/\Below w.heap.size w w':=by
 have hn:=hd.ok.small;have hmn:ct n<=1023:=by unfold ct;omega
 have Cd:2+4*id<n:=by unfold ct at h;omega
 have B0:=xh (aF.new w 162 jU);have O0:=ae (Below.refl w.heap.size w) (.cells jU 162);have K:=xh (nD (hd.below O0));have O0:=xh O0;have KS:=xh (λw=>oI (w:=w) id (by omega));have KR:=λw' (hb:Below w.heap.size w w')=>nC (hd.below hb) ((2+4*id:Nat):Int);rw[Ke d n _ Cd hdn]at KR;have KR:=xh KR;have h1:¬((id:Nat):Int)<0:=by omega
 have h2:¬((ct n:Nat):Int)<=(id:Int):=by omega
 clear hd;generalize ct n=mn at *;generalize 2+4*id=k at *;unfold dp pN at *;go_enter func139,ntmps139;go_wp2_with fail;refine K.o.mono ?_;rintro e w1 ⟨rfl,rfl⟩;go_wp2_with fail;refine(KS.o _).mono ?_;rintro e w2 ⟨rfl,dn⟩;have O2:=xh (aC O0.o dn);have B2:=xh (B0.o.below dn B0.o.lt);clear dn;have z0:=B2.o.frozen 0 (by simp);have z1:=B2.o.frozen 1 (by simp);have z2:=B2.o.frozen 2 (by simp);have z3:=B2.o.frozen 3 (by simp)
 have c0:=B2.o.ab (i:=0) rfl;have c1:=B2.o.ab (i:=1) rfl;have c2:=B2.o.ab (i:=2) rfl;have c3:=B2.o.ab (i:=3) rfl;have ZB:=xh (ky B2.o rfl 0 0 0 ⟨#[]⟩);have ZO:=xh (fV O2.o (Nat.le_refl _) 0 0 0 ⟨#[]⟩)
 have IX:=xh (show(Instr.index 244 (.agg #[.int .i64 (k:Int),.int .i64 ((k:Int)+1),.int .i64 ((k:Int)+2),.int .i64 ((k:Int)+3)]) (.int .i64 0)).run prog w2=.ok (.int .i64 (k:Int)) w2 from ER (k:Int) ((k:Int)+1) ((k:Int)+2) ((k:Int)+3) w2 0 _ rfl);go_wp2_with fail
 go_loopw [6,29] (λbv iv wr=>bv=.slice none 0 0/\iv=.int .i64 0/\wr=w2) (λ_ _ _=>0)
 case atStart=>exact⟨rfl,rfl,rfl⟩
 case round=>
  obtain⟨rfl,rfl,rfl⟩:=hrel;go_wp2_with fail;rw[IX.o];go_wp2_with fail;refine(KR.o _ O2.o).mono ?_;rintro e w3 ⟨rfl,rfl⟩;go_wp2_with fail;exact bodyPost_ret (dS rfl rfl ZB.o) rfl ⟨rfl,ZO.o⟩
theorem Tr(hd:aX w L n d)(id:Nat)(h:id<ct n)(hdn:d.down=false):
  Calls prog 139 #[dp L.b,.int .i64 (id:Nat)] w λe w'=>e=.returned (.tuple #[(bs d n id).1.val,.int .i64 (bs d n id).2])/\Below w.heap.size w w':=by
 have hn:=hd.ok.small;have hnow:=hd.ok.now;have hmn:ct n<=1023:=by unfold ct;omega
 have Cd:2+4*id+3<n:=by unfold ct at h;omega
 have B0:=xh (aF.new w 162 jU);have O0:=ae (Below.refl w.heap.size w) (.cells jU 162);have K:=xh (nD (hd.below O0));have O0:=xh O0;have KS:=xh (λw=>oI (w:=w) id (by omega));have KR:=λi (hi:i<=3) w' (hb:Below w.heap.size w w')=>by
  have h:=nC (hd.below hb) ((2+4*id+i:Nat):Int);rw[Tq d n _ (by omega) hdn]at h;exact h
 have KR:=xh KR;obtain⟨l,hl⟩:∃l,(d.now.drop (64*(2+4*id))).take 256=l:=⟨_,rfl⟩;have hres:bs d n id=if(jC l).2≠0 then(.zero,(jC l).2)else if(jC l).1.id≠(id:Int)then(.zero,14)else((jC l).1,0):=by
  unfold bs;rw[if_neg (by omega),if_neg (by simp[hdn]),show((id:Nat):Int).toNat=id from by omega,hl]
 generalize bs d n id=R at *;have HR:=xh hres;have PM:=xh (show((d.now.drop (64*(2+4*id))).take 256).length=256 from by rw[bK,dY];omega);have HNX:=xh (pO d.now (2+4*id));have HL:=xh hl;have KG:=xh (λw=>Tf (w:=w) ⟨l.toArray⟩);have yf:=xh (show ∀i,i<=4->((d.now.drop (64*(2+4*id))).take (64*i)).length=64*i from λi hi=>by rw[bK,dY];omega)
 have HSZ:=xh (show ∀i,i<=3->(sec d.now (2+4*id+i)).length=64 from λi hi=>mr hnow (by omega));have h1:¬((id:Nat):Int)<0:=by omega
 have h2:¬((ct n:Nat):Int)<=(id:Int):=by omega
 clear hd hl hres hnow;generalize ct n=mn at *;generalize 2+4*id=k at *;unfold dp pN at *;go_enter func139,ntmps139;go_wp2_with fail;refine K.o.mono ?_;rintro e w1 ⟨rfl,rfl⟩;go_wp2_with fail;refine(KS.o _).mono ?_;rintro e w2 ⟨rfl,dn⟩;have O2:=xh (aC O0.o dn);have B2:=xh (B0.o.below dn B0.o.lt);have y2:=B2.o.lt;clear dn B0 O0 K KS;go_wp2_with fail
 go_loopw [6,29] (λbv iv wr=> ∃i:Nat,i<=4/\iv=.int .i64 i/\aS wr 5 1 bv (64*i) (dN ((d.now.drop (64*k)).take (64*i)))/\Hid (Below w.heap.size w wr)/\Hid (Below w2.heap.size w2 wr)/\Hid (∀g∈ah bv,w2.heap.size<=g)) (λ_ iv _=>4-(intOf iv).toNat)
 case atStart=>exact⟨0,by omega,rfl,by rw[tP,iL];exact aS.nil _ _ _,O2,xh (Below.refl _ _),xh (by simp[ah])⟩
 case round=>
  obtain⟨i,hi,rfl,S,O,OB,F⟩:=hrel;have ii:i=0\/i=1\/i=2\/i=3\/i=4:=by omega
  rcases ii with rfl|rfl|rfl|rfl|rfl
  .have hr:=KR.o 0 (by omega) _ O.o;rw[show((k+0:Nat):Int)=(k:Int)from by omega]at hr;have Ts:=xh hr;have S:aS wr 5 1 _ 0 (dN ((d.now.drop (64*k)).take 0)):=S;obtain⟨V1,Cb,rfl⟩:=ax S;obtain⟨U,hU⟩:∃U:ByteArray,(⟨(sec d.now (k+0)).toArray⟩:ByteArray)=U:=⟨_,rfl⟩;rw[hU]at Ts;have GC:U.data.toList=sec d.now (k+0):=by rw[<-hU]
   have RY:U.size=64:=by rw[<-hU,iz];exact HSZ.o 0 (by omega)
   obtain⟨v2,w4,ea,S2,ow,fr⟩:=kx (P:=prog) S 150 9 150 underlying150 underlying9 jB.eR U (by rw[RY];omega);obtain⟨V2,iP,rfl⟩:=ax S2;rw[RY]at ea S2 fr;have EA:=xh (show pK prog 150 9 150 wr (.slice V1 0 Cb) (.string U)= .ok (.slice V2 64 iP) w4 from ea);have SX:=xh (show aS w4 5 1 (.slice V2 64 iP) (64*1) (dN ((d.now.drop (64*k)).take (64*1)))from by
    have hn:=HNX.o 0;rw[show 64*(0+1)=64*1 from rfl,<-GC]at hn;rw[hn,di];exact S2)
   have OX:=xh (O.o.trans (ow.aJ O.o.size (λg hg=>aq O2.o.size (F.o g hg))));have OBX:=xh (OB.o.trans (ow.aJ OB.o.size F.o));have FX:=xh (show ∀g∈ah (.slice V2 64 iP),w2.heap.size<=g from λg hg=>(fr g hg).elim (F.o g) (λh=>aq OB.o.size h))
   have IX:=xh (show(Instr.index 244 (.agg #[.int .i64 (k:Int),.int .i64 ((k:Int)+1),.int .i64 ((k:Int)+2),.int .i64 ((k:Int)+3)]) (.int .i64 0)).run prog wr=.ok (.int .i64 ((k:Int))) wr from ER (k:Int) ((k:Int)+1) ((k:Int)+2) ((k:Int)+3) wr 0 _ rfl);clear hr ea S2 ow fr S hU GC;go_wp2_with fail;rw[IX.o];go_wp2_with fail;refine Ts.o.mono ?_;rintro e wz ⟨rfl,rfl⟩;go_wp2_with fail;rw[EA.o];go_wp2_with fail;go_roundw
   case rel=>exact⟨1,by omega,by first|rfl|simp,SX.o,OX,OBX,FX⟩
   case measure=>first|decide|simp[intOf]
  .have hr:=KR.o 1 (by omega) _ O.o;rw[show((k+1:Nat):Int)=(k:Int)+1 from by omega]at hr;have Ts:=xh hr;have S:aS wr 5 1 _ 64 (dN ((d.now.drop (64*k)).take 64)):=S;obtain⟨V1,Cb,rfl⟩:=ax S;obtain⟨U,hU⟩:∃U:ByteArray,(⟨(sec d.now (k+1)).toArray⟩:ByteArray)=U:=⟨_,rfl⟩;rw[hU]at Ts;have GC:U.data.toList=sec d.now (k+1):=by rw[<-hU]
   have RY:U.size=64:=by rw[<-hU,iz];exact HSZ.o 1 (by omega)
   obtain⟨v2,w4,ea,S2,ow,fr⟩:=kx (P:=prog) S 150 9 150 underlying150 underlying9 jB.eR U (by rw[RY];omega);obtain⟨V2,iP,rfl⟩:=ax S2;rw[RY]at ea S2 fr;have EA:=xh (show pK prog 150 9 150 wr (.slice V1 64 Cb) (.string U)= .ok (.slice V2 128 iP) w4 from ea);have SX:=xh (show aS w4 5 1 (.slice V2 128 iP) (64*2) (dN ((d.now.drop (64*k)).take (64*2)))from by
    have hn:=HNX.o 1;rw[show 64*(1+1)=64*2 from rfl,<-GC]at hn;rw[hn,di];exact S2)
   have OX:=xh (O.o.trans (ow.aJ O.o.size (λg hg=>aq O2.o.size (F.o g hg))));have OBX:=xh (OB.o.trans (ow.aJ OB.o.size F.o));have FX:=xh (show ∀g∈ah (.slice V2 128 iP),w2.heap.size<=g from λg hg=>(fr g hg).elim (F.o g) (λh=>aq OB.o.size h))
   have IX:=xh (show(Instr.index 244 (.agg #[.int .i64 (k:Int),.int .i64 ((k:Int)+1),.int .i64 ((k:Int)+2),.int .i64 ((k:Int)+3)]) (.int .i64 1)).run prog wr=.ok (.int .i64 ((k:Int)+1)) wr from ER (k:Int) ((k:Int)+1) ((k:Int)+2) ((k:Int)+3) wr 1 _ rfl);clear hr ea S2 ow fr S hU GC;go_wp2_with fail;rw[IX.o];go_wp2_with fail;refine Ts.o.mono ?_;rintro e wz ⟨rfl,rfl⟩;go_wp2_with fail;rw[EA.o];go_wp2_with fail;go_roundw
   case rel=>exact⟨2,by omega,by first|rfl|simp,SX.o,OX,OBX,FX⟩
   case measure=>first|decide|simp[intOf]
  .have hr:=KR.o 2 (by omega) _ O.o;rw[show((k+2:Nat):Int)=(k:Int)+2 from by omega]at hr;have Ts:=xh hr;have S:aS wr 5 1 _ 128 (dN ((d.now.drop (64*k)).take 128)):=S;obtain⟨V1,Cb,rfl⟩:=ax S;obtain⟨U,hU⟩:∃U:ByteArray,(⟨(sec d.now (k+2)).toArray⟩:ByteArray)=U:=⟨_,rfl⟩;rw[hU]at Ts;have GC:U.data.toList=sec d.now (k+2):=by rw[<-hU]
   have RY:U.size=64:=by rw[<-hU,iz];exact HSZ.o 2 (by omega)
   obtain⟨v2,w4,ea,S2,ow,fr⟩:=kx (P:=prog) S 150 9 150 underlying150 underlying9 jB.eR U (by rw[RY];omega);obtain⟨V2,iP,rfl⟩:=ax S2;rw[RY]at ea S2 fr;have EA:=xh (show pK prog 150 9 150 wr (.slice V1 128 Cb) (.string U)= .ok (.slice V2 192 iP) w4 from ea);have SX:=xh (show aS w4 5 1 (.slice V2 192 iP) (64*3) (dN ((d.now.drop (64*k)).take (64*3)))from by
    have hn:=HNX.o 2;rw[show 64*(2+1)=64*3 from rfl,<-GC]at hn;rw[hn,di];exact S2)
   have OX:=xh (O.o.trans (ow.aJ O.o.size (λg hg=>aq O2.o.size (F.o g hg))));have OBX:=xh (OB.o.trans (ow.aJ OB.o.size F.o));have FX:=xh (show ∀g∈ah (.slice V2 192 iP),w2.heap.size<=g from λg hg=>(fr g hg).elim (F.o g) (λh=>aq OB.o.size h))
   have IX:=xh (show(Instr.index 244 (.agg #[.int .i64 (k:Int),.int .i64 ((k:Int)+1),.int .i64 ((k:Int)+2),.int .i64 ((k:Int)+3)]) (.int .i64 2)).run prog wr=.ok (.int .i64 ((k:Int)+2)) wr from ER (k:Int) ((k:Int)+1) ((k:Int)+2) ((k:Int)+3) wr 2 _ rfl);clear hr ea S2 ow fr S hU GC;go_wp2_with fail;rw[IX.o];go_wp2_with fail;refine Ts.o.mono ?_;rintro e wz ⟨rfl,rfl⟩;go_wp2_with fail;rw[EA.o];go_wp2_with fail;go_roundw
   case rel=>exact⟨3,by omega,by first|rfl|simp,SX.o,OX,OBX,FX⟩
   case measure=>first|decide|simp[intOf]
  .have hr:=KR.o 3 (by omega) _ O.o;rw[show((k+3:Nat):Int)=(k:Int)+3 from by omega]at hr;have Ts:=xh hr;have S:aS wr 5 1 _ 192 (dN ((d.now.drop (64*k)).take 192)):=S;obtain⟨V1,Cb,rfl⟩:=ax S;obtain⟨U,hU⟩:∃U:ByteArray,(⟨(sec d.now (k+3)).toArray⟩:ByteArray)=U:=⟨_,rfl⟩;rw[hU]at Ts;have GC:U.data.toList=sec d.now (k+3):=by rw[<-hU]
   have RY:U.size=64:=by rw[<-hU,iz];exact HSZ.o 3 (by omega)
   obtain⟨v2,w4,ea,S2,ow,fr⟩:=kx (P:=prog) S 150 9 150 underlying150 underlying9 jB.eR U (by rw[RY];omega);obtain⟨V2,iP,rfl⟩:=ax S2;rw[RY]at ea S2 fr;have EA:=xh (show pK prog 150 9 150 wr (.slice V1 192 Cb) (.string U)= .ok (.slice V2 256 iP) w4 from ea);have SX:=xh (show aS w4 5 1 (.slice V2 256 iP) (64*4) (dN ((d.now.drop (64*k)).take (64*4)))from by
    have hn:=HNX.o 3;rw[show 64*(3+1)=64*4 from rfl,<-GC]at hn;rw[hn,di];exact S2)
   have OX:=xh (O.o.trans (ow.aJ O.o.size (λg hg=>aq O2.o.size (F.o g hg))));have OBX:=xh (OB.o.trans (ow.aJ OB.o.size F.o));have FX:=xh (show ∀g∈ah (.slice V2 256 iP),w2.heap.size<=g from λg hg=>(fr g hg).elim (F.o g) (λh=>aq OB.o.size h))
   have IX:=xh (show(Instr.index 244 (.agg #[.int .i64 (k:Int),.int .i64 ((k:Int)+1),.int .i64 ((k:Int)+2),.int .i64 ((k:Int)+3)]) (.int .i64 3)).run prog wr=.ok (.int .i64 ((k:Int)+3)) wr from ER (k:Int) ((k:Int)+1) ((k:Int)+2) ((k:Int)+3) wr 3 _ rfl);clear hr ea S2 ow fr S hU GC;go_wp2_with fail;rw[IX.o];go_wp2_with fail;refine Ts.o.mono ?_;rintro e wz ⟨rfl,rfl⟩;go_wp2_with fail;rw[EA.o];go_wp2_with fail;go_roundw
   case rel=>exact⟨4,by omega,by first|rfl|simp,SX.o,OX,OBX,FX⟩
   case measure=>first|decide|simp[intOf]
  .have ST:=xh (Ny (P:=prog) S 150 9 underlying150 underlying5 underlying9);rw[show 64*4=256 from rfl,HL.o]at ST;obtain⟨VA,vc,rfl⟩:=ax S;have B3:=xh (B2.o.below OB.o y2);clear S;go_wp2_with fail;rw[ST.o];go_wp2_with fail;refine(KG.o _).mono ?_;rintro e w5 ⟨rfl,oF⟩;obtain⟨P,hP⟩:∃P,(jC l).1=P:=⟨_,rfl⟩;obtain⟨er,vx⟩:∃er,(jC l).2=er:=⟨_,rfl⟩;have GP:=xh (And.intro hP vx);rw[hP,vx];clear hP vx;obtain⟨pid,pep,pkd,ps⟩:=P
   have O6:=xh (ae (aC O.o oF) (.cells #[.int .i64 pid,.int .i64 pep,.int .i64 pkd,.string ⟨ps.toArray⟩] 162));have B6:=xh ((B3.o.below oF B3.o.lt).alloc (.cells #[.int .i64 pid,.int .i64 pep,.int .i64 pkd,.string ⟨ps.toArray⟩] 162));have P6:=xh (aF.new w5 162 #[.int .i64 pid,.int .i64 pep,.int .i64 pkd,.string ⟨ps.toArray⟩]);clear oF B3;unfold PG.val iZ;dsimp only;have z0:=B6.o.frozen 0 (by simp);have z1:=B6.o.frozen 1 (by simp)
   have z2:=B6.o.frozen 2 (by simp);have z3:=B6.o.frozen 3 (by simp);have c0:=B6.o.ab (i:=0) rfl;have c1:=B6.o.ab (i:=1) rfl;have c2:=B6.o.ab (i:=2) rfl;have c3:=B6.o.ab (i:=3) rfl;have p0:=P6.o.ab (i:=0) rfl;have p1:=P6.o.ab (i:=1) rfl;have p2:=P6.o.ab (i:=2) rfl;have p3:=P6.o.ab (i:=3) rfl;have ZB:=xh (ky B6.o rfl 0 0 0 ⟨#[]⟩);have ZO:=xh (fV O6.o (Nat.le_refl _) 0 0 0 ⟨#[]⟩)
   have YB:=xh (ky B6.o rfl pid pep pkd ⟨ps.toArray⟩);have YO:=xh (fV O6.o (Nat.le_refl _) pid pep pkd ⟨ps.toArray⟩)
   by_cases vx:er=0
   .subst vx
    by_cases hpi:pid=id
    .have hq:(pid != (id:Int))=false:=by rw[bne_eq_false_iff_eq];exact hpi
     have RES:=xh (show(if(jC l).2≠0 then(PG.zero,(jC l).2)else if(jC l).1.id≠(id:Int)then(PG.zero,14)else((jC l).1,0))=(⟨pid,pep,pkd,ps⟩,0)from by
      rw[GP.o.1,GP.o.2];simp[hpi])
     clear hpi;go_wp2_with fail;exact bodyPost_ret (dS rfl rfl YB.o) rfl ⟨by rw[HR.o.trans RES.o];rfl,YO.o⟩
    .have hq:(pid != (id:Int))=true:=by rw[bne_iff_ne];exact hpi
     have RES:=xh (show(if(jC l).2≠0 then(PG.zero,(jC l).2)else if(jC l).1.id≠(id:Int)then(PG.zero,14)else((jC l).1,0))=(PG.zero,14)from by
      rw[GP.o.1,GP.o.2];simp[hpi])
     clear hpi;go_wp2_with fail;exact bodyPost_ret (dS rfl rfl ZB.o) rfl ⟨by rw[HR.o.trans RES.o];rfl,ZO.o⟩
   .have hq:(er != 0)=true:=by rw[bne_iff_ne];exact vx
    have RES:=xh (show(if(jC l).2≠0 then(PG.zero,(jC l).2)else if(jC l).1.id≠(id:Int)then(PG.zero,14)else((jC l).1,0))=(PG.zero,er)from by
     rw[GP.o.1,GP.o.2,if_pos vx])
    clear vx;go_wp2_with fail;exact bodyPost_ret (dS rfl rfl ZB.o) rfl ⟨by rw[HR.o.trans RES.o];rfl,ZO.o⟩
theorem PN(hd:aX w L n d)(id:Int):
  Calls prog 139 #[dp L.b,.int .i64 id] w λe w'=>e=.returned (.tuple #[(bs d n id).1.val,.int .i64 (bs d n id).2])/\Below w.heap.size w w':=by
 by_cases h0:id<0
 .have:bs d n id=(.zero,3):=by unfold bs;rw[if_pos (.inl h0)]
  rw[this];exact PK L.b id h0
 .by_cases h1:(ct n:Int)<=id
  .have:bs d n id=(.zero,3):=by unfold bs;rw[if_pos (.inr h1)]
   rw[this];exact PL hd id (by omega) h1
  .obtain⟨a,rfl⟩:=eT (show 0<=id by omega)
   cases hdn:d.down
   .exact Tr hd a (by omega) hdn
   .have:bs d n a=(.zero,13):=by unfold bs;rw[if_neg (by omega),if_pos hdn]
    rw[this];exact Kf hd a (by omega) hdn
end Pg
namespace Pg
open Go.RowKit Pk Dk
variable{d:D}{n k:Nat}
theorem EU(N:Nat)(h:N<18446744073709551616):pA (vk N)=N:=by
 have e:vk N=[UInt8.ofNat (N / 72057594037927936),UInt8.ofNat (N / 281474976710656),UInt8.ofNat (N / 1099511627776),UInt8.ofNat (N / 4294967296),UInt8.ofNat (N / 16777216),UInt8.ofNat (N / 65536),UInt8.ofNat (N / 256),UInt8.ofNat (N / 1)]:=rfl;rw[e];simp only[pA,yV,JU,iN];omega
theorem CI(n:Int)(h0:0<=n)(h1:n<=9223372036854775807):(pA (fC n):Int)-9223372036854775808=n:=by
 unfold fC;rw[EU _ (by omega)];omega
theorem beN_kd(N:Nat)(h:N<=2147483647):pA ((vk N).drop 4)=N:=by
 rw[Td];simp only[pA,yV,JU,iN];omega
theorem tY{α}(a b:List α)(n:Nat)(h:a.length=n):(a++b).take n=a:=by rw[kX (by omega),cr (by omega)]
theorem tZ{α}(a b:List α)(n:Nat)(h:a.length=n):(a++b).drop n=b:=by rw[<-h];exact sr
theorem CJ(id ep kd:Int)(s:List UInt8)(h:s.length<=232):eO (lu id ep kd s) 252=fC id++(fC ep++((vk kd.toNat).drop 4++eO s 232)):=by
 rw[<-Te id ep kd s h];simp only[cy]
theorem PO{id ep kd:Int}{s:List UInt8}(fT:J7 id ep kd=true)(hid:id<=9223372036854775807)(hs:s.length<=232):
  jC (km id ep kd s)=(⟨id,ep,kd,eO s 232⟩,0):=by
 have hb:=(oA id ep kd).1 fT;have uR:(eO (lu id ep kd s) 252).length=252:=by
  have:(lu id ep kd s).length=20+s.length:=by unfold lu;simp[fS,oE];omega
  unfold eO;rw[aO,ev];omega
 have hd4:(km id ep kd s).drop 4=eO (lu id ep kd s) 252:=tZ _ _ 4 rfl;have ht4:(km id ep kd s).take 4=jB.iX (jB.lk (eO (lu id ep kd s) 252)):=tY _ _ 4 rfl;have hlen:(km id ep kd s).length=256:=by
  unfold km jB.bH;rw[aO,uR];rfl
 have f4:((vk kd.toNat).drop 4).length=4:=by rw[dY,oE]
 have e1:(km id ep kd s).drop 12=fC ep++((vk kd.toNat).drop 4++eO s 232):=by
  rw[show 12=4+8 from rfl,<-ix,hd4,CJ _ _ _ _ hs];exact tZ _ _ 8 (fS _)
 have e2:(km id ep kd s).drop 20=(vk kd.toNat).drop 4++eO s 232:=by
  rw[show 20=12+8 from rfl,<-ix,e1];exact tZ _ _ 8 (fS _)
 have e3:(km id ep kd s).drop 24=eO s 232:=by
  rw[show 24=20+4 from rfl,<-ix,e2];exact tZ _ _ 4 f4
 have hdec:lL (km id ep kd s)=⟨id,ep,kd,eO s 232⟩:=by
  unfold lL;rw[e1,e2,e3,hd4,CJ _ _ _ _ hs,tY _ _ 8 (fS _),tY _ _ 8 (fS _),tY _ _ 4 f4,CI id hb.1 hid,CI ep hb.2.1 (by omega),beN_kd _ (by omega)]
  congr 1
  omega
 unfold jC;rw[if_neg (by rw[hlen];simp),hd4,ht4,if_neg (by simp),hdec];simp only[fT,if_true]
theorem CK(d:D):d.cF.1.now=d.now:=by
 unfold D.cF
 split
 .rfl
 .split<;>rfl
theorem wY(d:D)(h:d.bn=0):d.cF.2=0/\d.cF.1.bn=0/\d.cF.1.down=d.down:=by
 unfold D.cF;rw[if_pos h];exact⟨rfl,h,rfl⟩
theorem zm(d:D)(i:Nat):(d.il i).bn=d.bn/\(d.il i).down=d.down:=by unfold D.il;split<;>exact⟨rfl,rfl⟩
theorem iB(hd:d.down=false)(ha:d.bn=0)(hk:k<n)(s:List UInt8):(d.aA n k s).2=0/\(d.aA n k s).1.down=false/\(d.aA n k s).1.bn=0:=by
 have h0:d.jD n k=0:=by rw[ET d n k hk];simp[hd]
 unfold D.aA;rw[if_pos h0];have h1:(d.du (k:Int).toNat s).bn=0:=((zm d _).1).trans ha;have h2:(d.du (k:Int).toNat s).down=false:=((zm d _).2).trans hd;obtain⟨c1,c2,c3⟩:=wY _ h1;exact⟨c1,c3.trans h2,c2⟩
theorem NI{d:D}{n k:Nat}(b:List UInt8)(hd:d.down=false)(ha:d.bn=0):∀i,k+i<=n->(w4 d n k b i).2=0/\(w4 d n k b i).1.down=false/\(w4 d n k b i).1.bn=0
 |0,_=>⟨rfl,hd,ha⟩
 |i+1,hi=>by
  obtain⟨h1,h2,h3⟩:=NI (n:=n) (k:=k) b hd ha i (by omega);rw[Tm d n k b i h1,show(k:Int)+(i:Int)=((k+i:Nat):Int) by omega];exact iB h2 h3 (by omega) _
theorem vy(c:List UInt8)(h:c.length=64):jV c=c:=by
 unfold jV;rw[h,fM,Ew,jh,cr (by omega)]
theorem qT(fT:d.Ok n)(k:Nat)(hk:k<n)(s:List UInt8)(he:(d.aA n k s).2=0)(j:Nat)(hj:j<n):sec (d.aA n k s).1.now j=if k=j then jV s else sec d.now j:=by
 unfold D.aA at he ⊢
 by_cases h0:d.jD n k=0
 .rw[if_pos h0,CK];show sec (gj d.now (k:Int).toNat (jV s)) j=_;rw[show((k:Nat):Int).toNat=k from by omega];exact NA fT.now hk (jW s) hj
 .rw[if_neg h0]at he;exact absurd he h0
theorem Kg(fT:d.Ok n)(b:List UInt8)(hb:b.length=256):∀i,i<=4->k+i<=n->(w4 d n k b i).2=0->∀j,j<n->sec (w4 d n k b i).1.now j=if k<=j/\j<k+i then(b.drop (64*(j-k))).take 64 else sec d.now j
 |0,_,_,_,j,_=>by rw[if_neg (by omega)];rfl
 |i+1,hi,Cd,he,j,hj=>by
  have h1:(w4 d n k b i).2=0:=by
   by_cases h:(w4 d n k b i).2=0
   .exact h
   .rw[NH d n k b i (i+1) h (by omega)]at he;exact absurd he h
  have ih:=Kg fT b hb i (by omega) (by omega) h1 j hj;rw[Tm d n k b i h1]at he ⊢;rw[show(k:Int)+(i:Int)=((k+i:Nat):Int) by omega]at he ⊢;rw[qT (zj fT k b i) (k+i) (by omega) _ he j hj]
  by_cases PU:k+i=j
  .rw[if_pos PU,if_pos (by omega),vy _ (by rw[bK,dY];omega)]
   congr 3;omega
  .rw[if_neg PU,ih]
   by_cases hr:k<=j/\j<k+i
   .rw[if_pos hr,if_pos (by omega)]
   .rw[if_neg hr,if_neg (by omega)]
theorem l6(F:List UInt8)(k:Nat):(F.drop (64*k)).take 256=sec F k++sec F (k+1)++sec F (k+2)++sec F (k+3):=by
 have h0:=pO F k 0;have h1:=pO F k 1;have h2:=pO F k 2;have h3:=pO F k 3;simp only[tP,iL,cI,kY]at h0;rw[show(256:Nat)=64*(3+1)from rfl,h3,h2,h1,h0]
theorem chunks(b:List UInt8)(hb:b.length=256):(b.drop (64*0)).take 64++(b.drop (64*1)).take 64++(b.drop (64*2)).take 64++(b.drop (64*3)).take 64=b:=by
 have:=l6 b 0;rw[tP,Eg,cr (by omega)]at this;exact this.symm
theorem EV(fT:d.Ok n)(id:Nat)(b:List UInt8)(hb:b.length=256)(hid:id<ct n)(he:(w4 d n (2+4*id) b 4).2=0):
  ((w4 d n (2+4*id) b 4).1.now.drop (64*(2+4*id))).take 256=b:=by
 have hk:2+4*id+3<n:=by unfold ct at hid;omega
 have hw:=Kg fT b hb 4 (by omega) (by omega) he;rw[l6,hw _ (by omega),hw _ (by omega),hw _ (by omega),hw _ (by omega),if_pos (by omega),if_pos (by omega),if_pos (by omega),if_pos (by omega)];have:=chunks b hb;rw[show 2+4*id-(2+4*id)=0 by omega,show 2+4*id+1-(2+4*id)=1 by omega,show 2+4*id+2-(2+4*id)=2 by omega,show 2+4*id+3-(2+4*id)=3 by omega];exact this
theorem EW(fT:d.Ok n)(id jd:Nat)(b:List UInt8)(hb:b.length=256)(hid:id<ct n)(hjd:jd<ct n)(fc:id≠jd)(he:(w4 d n (2+4*id) b 4).2=0):
  ((w4 d n (2+4*id) b 4).1.now.drop (64*(2+4*jd))).take 256=(d.now.drop (64*(2+4*jd))).take 256:=by
 have hk:2+4*id+3<n:=by unfold ct at hid;omega
 have hk2:2+4*jd+3<n:=by unfold ct at hjd;omega
 have hw:=Kg fT b hb 4 (by omega) (by omega) he;rw[l6,hw _ (by omega),hw _ (by omega),hw _ (by omega),hw _ (by omega),l6,if_neg (by omega),if_neg (by omega),if_neg (by omega),if_neg (by omega)]
theorem zo{id:Nat}{b:List UInt8}(hid:id<ct n)(hd:d.down=false)(hb:(d.now.drop (64*(2+4*id))).take 256=b):
  bs d n id=if(jC b).2≠0 then(.zero,(jC b).2)else if(jC b).1.id≠(id:Int)then(.zero,14)else((jC b).1,0):=by
 unfold bs;rw[if_neg (by omega),if_neg (by simp[hd]),show((id:Nat):Int).toNat=id from by omega,hb]
theorem mu(fT:d.Ok n)(hd:d.down=false)(ha:d.bn=0)(id:Nat)(ep kd:Int)(s:List UInt8)(hid:id<ct n)(hp:J7 id ep kd=true)(hs:s.length<=232):
  (bm d n id ep kd s).2=0/\(bm d n id ep kd s).1.down=false/\(bm d n id ep kd s).1.bn=0/\bs (bm d n id ep kd s).1 n id=(⟨id,ep,kd,eO s 232⟩,0)/\
   ∀jd,jd<ct n->jd≠id->bs (bm d n id ep kd s).1 n jd=bs d n jd:=by
 have sG:du id ep kd s=(km id ep kd s,0):=by unfold du;rw[if_pos hp,if_neg (by omega)]
 have hlen:=(zk (by rw[sG])).1;rw[sG]at hlen;have hw:bm d n id ep kd s=w4 d n (2+4*id) (km id ep kd s) 4:=by
  unfold bm;rw[sG,if_neg (by simp),if_neg (by omega)];rfl
 have hk:2+4*id+4<=n:=by unfold ct at hid;omega
 have hid2:((id:Nat):Int)<=9223372036854775807:=by have:=fT.small;unfold ct at hid;omega
 obtain⟨f1,f2,f3⟩:=NI (k:=2+4*id) (km id ep kd s) hd ha 4 hk;rw[hw];refine⟨f1,f2,f3,?_,λjd hjd fc=>?_⟩
 .rw[zo hid f2 (EV fT id _ hlen hid f1),PO hp hid2 hs];simp
 .rw[zo hjd f2 rfl,zo hjd hd rfl,EW fT id jd _ hlen hid hjd (Ne.symm fc) f1]
end Pg
namespace Fm
open Go.RowKit
def ints(l:List Int):List Value:=l.map (Value.int .i64)
@[simp] theorem ints_length(l:List Int):(ints l).length=l.length:=by simp[ints]
theorem Tt(l:List Int)(k:Nat)(h:k<l.length):(ints l)[k]?=some (.int .i64 l[k]):=by simp[ints,h]
theorem ints_set(l:List Int)(k:Nat)(x:Int):(ints l).set k (.int .i64 x)=ints (l.set k x):=by simp[ints]
theorem GJ(l m:List Int):ints (l++m)=ints l++ints m:=by simp[ints]
def Ce(l:List Int)(i:Int):Bool:=decide (0<=i/\i<l.length)
def dD(l:List Int)(i:Int):List Int×Int:=
 if Ce l i then(if l.getD i.toNat 0=2 then(l.set i.toNat 0,0)else if l.getD i.toNat 0=1 then(l.set i.toNat 3,0)else(l,9))else(l,3)
def cR(l:List Int)(k:Int):Nat:=l.findIdx (· ==k)
def cG(l:List Int):List Int×Int×Int:=
 if cR l 0<l.length then(l.set (cR l 0) 2,cR l 0,0)else(l,0,11)
def mU(leaving fresh k:Int):Int:=if k=3 then leaving else if k=2 then fresh else k
def ja(leaving fresh:Int)(l:List Int):List Int:=l.map (mU leaving fresh)
def gQ(l:List Int)(k:Int):Nat->List Int
 |0=>[]
 |n+1=>gQ l k n++if l.getD n 0=k then [(n:Int)]else []
def gu(l:List Int)(k:Int):List Int:=gQ l k l.length
theorem Cf(l:List Int)(k:Int)(n:Nat):(gQ l k n).length<=n:=by
 induction n with
 |zero=>simp[gQ]
 |succ n ih=>simp only[gQ,aO];split<;>simp<;>omega
theorem ua(a b:Int)(l:List Int):(ja a b l).length=l.length:=by simp[ja]
def jE(a b:Int)(l:List Int)(k:Nat):List Int:=(l.take k).map (mU a b)++l.drop k
theorem Cg(a b:Int)(l:List Int)(k:Nat):(jE a b l k).length=l.length:=by
 simp[jE];omega
theorem GK(a b:Int)(l:List Int):jE a b l 0=l:=by simp[jE]
theorem Kh(a b:Int)(l:List Int):jE a b l l.length=ja a b l:=by simp[jE,ja]
theorem zp(a b:Int)(l:List Int)(k:Nat)(h:k<l.length):(jE a b l k).getD k 0=l.getD k 0:=by
 unfold jE;simp only[List.getD];rw[dR (by simp;omega)];simp[qQ (Nat.le_of_lt h)]
theorem wZ(a b:Int)(l:List Int)(k:Nat)(h:k<l.length):jE a b l (k+1)=(jE a b l k).set k (mU a b (l.getD k 0)):=by
 have hk:l.getD k 0=l[k]:=by simp[List.getD,aG h]
 have h0:k-((l.take k).map (mU a b)).length=0:=by simp;omega
 rw[jE,jE,hk,gy h,ez,cy,qN _ _ (by simp;omega),h0,nZ h];rfl
theorem Tu(l:List Int)(k:Nat):l.set k (l.getD k 0)=l:=by
 rcases dX k l.length with h|h
 .simp only[List.getD,aG h,iM];exact List.set_getElem_self h
 .exact List.set_eq_of_length_le h
theorem GL(a b:Int)(l:List Int)(k:Nat)(h:k<l.length)(h3:mU a b (l.getD k 0)=l.getD k 0):jE a b l (k+1)=jE a b l k:=by
 rw[wZ a b l k h,h3,<-zp a b l k h,Tu]
variable{w:World}{b g:Nat}{l:List Int}
theorem GM:(prog.info? 3).map (λi=>(i.zero,i.size,i.bytes))=some (some (.int .i64 0),1,8):=by kernel_rfl
structure dE(w:World)(b g:Nat)(l:List Int):Prop where
 hb:aF w b 218 #[.slice (some ⟨g,0,none⟩) l.length l.length]
 hg:aF w g 3 (ints l).toArray
 hl:l.length<=1024
def mp(b:Nat):Value:= .pointer (some ⟨b,0,none⟩)
section
variable{w w':World}{b g:Nat}{l:List Int}{S:List Nat}
theorem dE.ne(h:dE w b g l):b≠g:=h.hb.kl h.hg (by decide)
theorem dE.c0(h:dE w b g l):w.cell? ⟨b,0,none⟩=some (.slice (some ⟨g,0,none⟩) l.length l.length):=h.hb.ab rfl
theorem dE.ck(h:dE w b g l)(k:Nat)(hk:k<l.length):w.cell? ⟨g,k,none⟩=some (.int .i64 (l.getD k 0)):=by
 refine h.hg.ab ?_;rw[dh,Tt _ _ hk];simp[List.getD,aG hk]
theorem dE.fk(h:dE w b g l)(k:Nat)(hk:k<l.length):w.frozen? ⟨g,k,none⟩=false:=h.hg.frozen k (by simpa using hk)
theorem dE.only(h:dE w b g l)(ho:ag S w w')(h1:b∉S)(h2:g∉S):dE w' b g l:=⟨h.hb.only ho h1,h.hg.only ho h2,h.hl⟩
theorem dE.below(h:dE w b g l)(hb:Below w.heap.size w w'):dE w' b g l:=h.only (S:=[]) (.ai hb) (by simp) (by simp)
theorem dE.drew(h:dE w b g l):dE w.drew b g l:=⟨h.hb,h.hg,h.hl⟩
theorem dE.bU(h:dE w b g l)(k:Nat)(x:Int):dE (w.setCell ⟨g,k,none⟩ (.int .i64 x)) b g (l.set k x):=by
 refine⟨?_,?_,by simpa using h.hl⟩
 .rw[bW];exact h.hb.aQ (by exact h.ne) _
 .have:=h.hg.bU k (.int .i64 x);rw[tK,ints_set]at this;exact this
end
theorem EP(n:Nat)(w:World)(h:n<=1024):
  Calls prog 81 #[.int .i64 n] w λe w'=> ∃b g,e=.returned (.tuple #[mp b,.int .i64 0])/\dE w' b g (List.replicate n 0)/\Below w.heap.size w w'/\w.heap.size<=b/\w.heap.size<=g:=by
 have hmk:∀w':World,(Instr.makeSlice 60 (.int .i64 n) (.int .i64 n)).run prog w'= .ok (.slice (some ⟨w'.heap.size,0,none⟩) n n) (w'.alloc (.cells (madeCells #[.int .i64 0] n) 3)):=λw'=>by
  obtain⟨i0,hi,ku,js,ki⟩:=info_parts GM;have h:=run_make (P:=prog) w' 60 3 i0 (.int .i64 0) underlying60 hi ku .i64 .i64 n n (by omega) (jg _) (by rw[ki];omega) (by omega);simpa [js,Value.cells]using h
 go_enter func81,ntmps81
 go_wp2
 go_ret2;refine⟨w.heap.size+1,w.heap.size,rfl,⟨?_,?_,by simpa using h⟩,((Below.refl _ _).alloc (Nat.le_refl _) _).alloc (by simp) _,by omega,by omega⟩
 .have:=aF.new (w.alloc (.cells (madeCells #[.int .i64 0] n) 3)) 218 #[.slice (some ⟨w.heap.size,0,none⟩) n n];simpa using this
 .have:=(aF.new w 3 (madeCells #[.int .i64 0] n)).alloc (.cells #[.slice (some ⟨w.heap.size,0,none⟩) n n] 218);rw[hJ]at this;rw[hJ];simpa [ints]using this
theorem NJ(m:dE w b g l)(i:Int)(h:Ce l i=true):
  Calls prog 183 #[mp b,.int .i64 i] w λe w'=>e=.returned (.int .i64 0)/\w=w':=by
 simp only[Ce,decide_eq_true_eq]at h;obtain⟨h0,h1⟩:=h;have hl:=m.hl;have c0:=m.c0;unfold mp;go_enter func183,ntmps183
 go_wp2
 go_ret;exact⟨rfl,rfl⟩
theorem at_no(m:dE w b g l)(i:Int)(h:Ce l i=false):
  Calls prog 183 #[mp b,.int .i64 i] w λe w'=>e=.returned (.int .i64 3)/\w=w':=by
 simp only[Ce,decide_eq_false_iff_not]at h;have h':i<0\/(¬i<0/\(l.length:Int)<=i):=by omega
 clear h;have hl:=m.hl;have c0:=m.c0;unfold mp
 rcases h' with h|⟨h,h1⟩
 all_goals
  go_enter func183,ntmps183
  go_wp2
  go_ret;exact⟨rfl,rfl⟩
variable{w:World}{b g:Nat}{l:List Int}
theorem qU(m:dE w b g l)(i:Int):
  Calls prog 153 #[mp b,.int .i64 i] w λe w'=>e=.returned (.int .i64 (dD l i).2)/\dE w' b g (dD l i).1/\ag [g] w w':=by
 by_cases rV:Ce l i=true
 .have zq:=rV;simp only[Ce,decide_eq_true_eq]at zq;obtain⟨h0,h1⟩:=zq;obtain⟨k,rfl⟩:=eT h0;have hk:k<l.length:=by omega
  have c0:=m.c0;have ck:=m.ck k hk;have fk:=m.fk k hk
  by_cases hz:l.getD k 0=2
  .have hu:dD l k=(l.set k 0,0):=by simp only[dD,rV,if_true,gI,hz]
   rw[hu];rw[hz]at ck;have HU:=xh (m.bU k 0);clear hz hu;unfold mp;go_enter func153,ntmps153;go_wp2_with fail;refine(NJ m k rV).mono ?_;rintro e w1 ⟨rfl,rfl⟩;go_wp2_with fail;go_ret;exact⟨rfl,HU.o,(ag.refl _ _).setCell (by simp) _⟩
  .by_cases js:l.getD k 0=1
   .have hu:dD l k=(l.set k 3,0):=by simp only[dD,rV,if_true,gI,js];rfl
    rw[hu];rw[js]at ck;have HU:=xh (m.bU k 3);clear hz js hu;unfold mp;go_enter func153,ntmps153;go_wp2_with fail;refine(NJ m k rV).mono ?_;rintro e w1 ⟨rfl,rfl⟩;go_wp2_with fail;go_ret;exact⟨rfl,HU.o,(ag.refl _ _).setCell (by simp) _⟩
   .have hu:dD l k=(l,9):=by simp only[dD,rV,if_true,gI,if_neg hz,if_neg js]
    rw[hu];clear hu fk;generalize l.getD k 0=x at ck hz js;unfold mp;go_enter func153,ntmps153;go_wp2_with fail;refine(NJ m k rV).mono ?_;rintro e w1 ⟨rfl,rfl⟩;go_wp2_with fail;go_ret;exact⟨rfl,m,ag.refl _ _⟩
 .have zq:Ce l i=false:=by simpa using rV
  have hu:dD l i=(l,3):=by simp only[dD,zq];rfl
  rw[hu];clear hu;unfold mp;go_enter func153,ntmps153;go_wp2_with fail;refine(at_no m i zq).mono ?_;rintro e w1 ⟨rfl,rfl⟩;go_wp2_with fail;go_ret;exact⟨rfl,m,ag.refl _ _⟩
theorem GN(l:List Int)(k:Int)(n:Nat)(hn:n<=l.length)(h:∀j,j<n->l.getD j 0≠k):n<=cR l k:=by
 rcases dX (cR l k) n with dP|JB
 .have h1:l.findIdx (· ==k)<l.length:=by unfold cR at dP;omega
  have h2:=pG (w:=h1);have h3:=h _ dP;unfold cR at h3;simp only[List.getD,aG h1,iM]at h3;exact absurd (by simpa using h2) h3
 .exact JB
theorem Tv(l:List Int)(k:Int)(n:Nat)(hn:n<l.length)(h:∀j,j<n->l.getD j 0≠k)(hk:l.getD n 0=k):cR l k=n:=by
 have h1:=GN l k n (by omega) h;have h2:cR l k<=n:=by
  unfold cR;have hg:l[n]=k:=by simpa [List.getD,aG hn]using hk
  rcases dX n (l.findIdx (· ==k))with dP|JB
  .have:=Ep dP;simp[hg]at this
  .exact JB
 omega
theorem Ki(l:List Int)(k:Int)(h:∀j,j<l.length->l.getD j 0≠k):cR l k=l.length:=by
 have:=GN l k l.length (Nat.le_refl _) h;have h2:cR l k<=l.length:=n7;omega
def kD(l:List Int)(k:Int):Int:=if cR l k<l.length then(cR l k:Int)else -1
theorem qV(g n c:Nat)(l:List Int)(hn:n=l.length)(hm:n<=1000000)(k:Int)(w:World)(hc:∀j,j<l.length->w.cell? ⟨g,j,none⟩=some (.int .i64 (l.getD j 0))):
  Calls prog 165 #[.slice (some ⟨g,0,none⟩) n c,.int .i64 k] w λe w'=>e=.returned (.int .i64 (kD l k))/\w=w':=by
 subst hn;go_enter func165,ntmps165
 go_wp2
 go_loop [5,8] (λ_ i=> ∃j:Nat,j<=l.length/\i=.int .i64 j/\Hid (∀x,x<j->l.getD x 0≠k)) (λ_ i=>l.length-(intOf i).toNat)
 case atStart=>exact⟨0,by omega,rfl,xh (by omega)⟩
 case round=>
  obtain⟨j,hj,rfl,H⟩:=hrel
  by_cases h:j<l.length
  .have cj:=hc j h;clear hc
   by_cases hk:l.getD j 0=k
   .have he:kD l k=j:=by unfold kD;rw[Tv l k j h H.o hk,if_pos h]
    have HE:=xh he;clear he;rw[hk]at cj;clear hk
    go_wp2
    go_ret;exact⟨by rw[HE.o];rfl,rfl⟩
   .have H2:=xh (show ∀x,x<j+1->l.getD x 0≠k from λx hx=>by
     rcases dX x j with h1|h1
     .exact H.o x h1
     .have:x=j:=by omega
      subst this;exact hk)
    have hk':(k==l.getD j 0)=false:=by simp;exact λe=>hk e.symm
    clear hk;generalize l.getD j 0=y at *
    go_wp2
    go_round
    case rel=>exact⟨j+1,by omega,by go_num,H2⟩
    case measure=>simp[intOf];omega
  .have hjl:j=l.length:=by omega
   have he:kD l k= -1:=by
    unfold kD;rw[Ki l k (by rw[<-hjl];exact H.o),if_neg (by omega)]
   have HE:=xh he;clear he hjl hc
   go_wp2
   go_ret;exact⟨by rw[HE.o];rfl,rfl⟩
theorem CM(m:dE w b g l)(k:Int):
  Calls prog 195 #[mp b,.int .i64 k] w λe w'=>e=.returned (.int .i64 (kD l k))/\w=w':=by
 have hl:=m.hl;have c0:=m.c0;have HC:=xh m.ck;unfold mp;go_enter func195,ntmps195;go_wp2_with fail;refine(qV g _ _ l rfl (by omega) k _ HC.o).mono ?_;rintro e w1 ⟨rfl,rfl⟩;go_wp2_with fail;go_ret;exact⟨rfl,rfl⟩
theorem tU(m:dE w b g l):
  Calls prog 151 #[mp b] w λe w'=>e=.returned (.tuple #[.int .i64 (cG l).2.1,.int .i64 (cG l).2.2])/\dE w' b g (cG l).1/\ag [g] w w':=by
 have hl:=m.hl;have c0:=m.c0
 by_cases h:cR l 0<l.length
 .have hu:cG l=(l.set (cR l 0) 2,(cR l 0:Int),0):=by rw[cG,if_pos h]
  have hi:kD l 0=cR l 0:=by rw[kD,if_pos h]
  rw[hu];have K:=xh (hi▸CM m 0);have ck:=m.ck _ h;have fk:=m.fk _ h;have HU:=xh (m.bU (cR l 0) 2);clear hu hi;generalize cR l 0=k at *;unfold mp at *;go_enter func151,ntmps151;go_wp2_with fail;refine(K.o).mono ?_;rintro e w1 ⟨rfl,rfl⟩;go_wp2_with fail;go_ret2;exact⟨rfl,HU.o,(ag.refl _ _).setCell (by simp) _⟩
 .have hu:cG l=(l,0,11):=by rw[cG,if_neg h]
  have hi:kD l 0= -1:=by rw[kD,if_neg h]
  rw[hu];have K:=xh (hi▸CM m 0);clear hu hi h;unfold mp at *;go_enter func151,ntmps151;go_wp2_with fail;refine(K.o).mono ?_;rintro e w1 ⟨rfl,rfl⟩;go_wp2_with fail;go_ret2;exact⟨rfl,m,ag.refl _ _⟩
variable{w:World}{b g:Nat}{l:List Int}
theorem GO(m:dE w b g l)(a c:Int):
  Calls prog 200 #[mp b,.int .i64 a,.int .i64 c] w λe w'=>e=.returned (.bool true)/\dE w' b g (ja a c l)/\ag [g] w w':=by
 have hl:=m.hl;have c0:=m.c0;have HM:=xh m;clear m;unfold mp;go_enter func200,ntmps200
 go_wp2
 go_loopw [7,8,16] (λ_ _ i wr=> ∃k:Nat,k<=l.length/\i=.int .i64 k/\dE wr b g (jE a c l k)/\ag [g] w wr) (λ_ _ i _=>l.length-(intOf i).toNat)
 case atStart=>exact⟨0,by omega,rfl,by rw[GK];exact HM.o,ag.refl _ _⟩
 case round=>
  obtain⟨k,hk,rfl,M,O⟩:=hrel;have HL:=xh (Cg a c l k)
  by_cases h:k<l.length
  .have c0r:wr.cell? ⟨b,0,none⟩=some (.slice (some ⟨g,0,none⟩) l.length l.length):=by rw[<-HL.o];exact M.c0
   have ck:=M.ck k (by rw[HL.o];exact h);have fk:=M.fk k (by rw[HL.o];exact h);rw[zp a c l k h]at ck;have HS:=xh (wZ a c l k h);have HE:=xh (GL a c l k h);have M3:=xh (M.bU k)
   by_cases h3:l.getD k 0=3
   .rw[h3]at ck;have HX:=xh h3;clear h3
    go_wp2
    go_roundw
    case rel=>exact⟨k+1,by omega,by go_num,by rw[HS.o,HX.o];exact M3.o a,O.setCell (by simp) _⟩
    case measure=>simp[intOf];omega
   .by_cases h2:l.getD k 0=2
    .rw[h2]at ck;have HX:=xh h2;clear h3 h2
     go_wp2
     go_roundw
     case rel=>exact⟨k+1,by omega,by go_num,by rw[HS.o,HX.o];exact M3.o c,O.setCell (by simp) _⟩
     case measure=>simp[intOf];omega
    .have HX:=xh (HE.o (by rw[mU,if_neg h3,if_neg h2]));generalize l.getD k 0=x at *
     go_wp2
     go_roundw
     case rel=>exact⟨k+1,by omega,by go_num,by rw[HX.o];exact M,O⟩
     case measure=>simp[intOf];omega
  .have kE:k=l.length:=by omega
   have HX:=xh kE;clear kE
   go_wp2
   go_ret;exact⟨rfl,by rw[<-Kh,<-HX.o];exact M,O⟩
theorem Kk(m:dE w b g l):
  Calls prog 154 #[mp b] w λe w'=>e=.returned (.bool true)/\dE w' b g (ja 0 1 l)/\ag [g] w w':=by
 have K:=xh (GO m);unfold mp at *;go_enter func154,ntmps154;go_wp2_with fail;refine(K.o _ _).mono ?_;rintro e w1 ⟨rfl,m1,o1⟩;go_wp2_with fail;go_ret;exact⟨rfl,m1,o1⟩
theorem PV(m:dE w b g l):
  Calls prog 155 #[mp b] w λe w'=>e=.returned (.bool true)/\dE w' b g (ja 1 0 l)/\ag [g] w w':=by
 have K:=xh (GO m);unfold mp at *;go_enter func155,ntmps155;go_wp2_with fail;refine(K.o _ _).mono ?_;rintro e w1 ⟨rfl,m1,o1⟩;go_wp2_with fail;go_ret;exact⟨rfl,m1,o1⟩
theorem Kl{v:Value}{n:Nat}(S:aS w 3 1 v n (ints l))(x:Int)(hn:n<=1000000):
  ∃v' w',(Builtin.append_ #[60,60] 60 #[v,.slice (some ⟨w.heap.size,0,none⟩) 1 1]).run prog (w.alloc (.cells #[.int .i64 x] 3))= .ok v' w'/\aS w' 3 1 v' (n+1) (ints (l++[x]))/\ag (ah v) w w'/\(∀g∈ah v',g∈ah v\/w.heap.size<=g):=by
 obtain⟨i0,hi,ku,js,ki⟩:=info_parts GM;obtain⟨v',w',h1,h2,h3,h4⟩:=dC (P:=prog) (S.alloc (.cells #[.int .i64 x] 3)) 60 60 i0 (.int .i64 0) 8 underlying60 hi ku js ki rfl (by omega)
  ⟨w.heap.size,0,none⟩ 1 1 [.int .i64 x] rfl (bq (l:=[.int .i64 x]) (aF.new w 3 #[.int .i64 x]) 0 _ (by simp)) (by simp[Value.oneCell']) (by unfold maxLen;omega) (by omega)
 refine⟨v',w',h1,by rw[GJ];exact h2,((ag.refl _ _).alloc _).aL h3 (λx hx _=>hx),λg hg=>(h4 g hg).imp id (λh=>by simp at h;omega)⟩
theorem jX(m:dE w b g l)(kind:Int):
  Calls prog 194 #[mp b,.int .i64 kind] w λe w'=> ∃v,e=.returned v/\aS w' 3 1 v (gu l kind).length (ints (gu l kind))/\Below w.heap.size w w'/\(∀x∈ah v,w.heap.size<=x):=by
 have hl:=m.hl;have c0:=m.c0;have HM:=xh m;clear m;unfold mp;go_enter func194,ntmps194
 go_wp2
 go_loopw [5,6,7,16] (λv _ _ i wr=> ∃k:Nat,k<=l.length/\i=.int .i64 k/\aS wr 3 1 v (gQ l kind k).length (ints (gQ l kind k))/\Below w.heap.size w wr/\(∀x∈ah v,w.heap.size<=x)) (λ_ _ _ i _=>l.length-(intOf i).toNat)
 case atStart=>exact⟨0,by omega,rfl,aS.nil _ _ _,Below.refl _ _,by simp[ah]⟩
 case round=>
  obtain⟨k,hk,rfl,S,O,F⟩:=hrel;have F:=xh F;have dP:=Cf l kind k
  by_cases h:k<l.length
  .have M:=HM.o.below O;have ck:=M.ck k h
   by_cases h3:l.getD k 0=kind
   .have HX:=xh (show gQ l kind (k+1)=gQ l kind k++[(k:Int)] by simp only[gQ,if_pos h3]);rw[h3]at ck;clear h3 M;obtain⟨v',w',ea,S',O',F'⟩:=Kl S k (by omega);have F':=xh F';have EA:=xh ea;clear ea;generalize gQ l kind k=L at *;go_wp2_with (at_builtin;refine wpList_append_run rfl _ _ _ rfl _ _ rfl rfl EA.o ?_);go_roundw
    case rel=>exact⟨k+1,by omega,by go_num,by rw[HX.o];simpa using S',O.trans (O'.aJ O.size F.o),λx hx=>(F'.o x hx).elim (F.o x) (λh=>aq O.size h)⟩
    case measure=>simp[intOf];omega
   .have HX:=xh (show gQ l kind (k+1)=gQ l kind k by simp only[gQ,if_neg h3];simp);generalize l.getD k 0=x at *;clear M;have fc:(x==kind)=false:=by simpa using h3
    go_wp2
    go_roundw
    case rel=>exact⟨k+1,by omega,by go_num,by rw[HX.o];exact S,O,F.o⟩
    case measure=>simp[intOf];omega
  .have kE:k=l.length:=by omega
   have HX:=xh kE;clear kE
   go_wp2
   go_ret;refine⟨_,rfl,?_,O,F.o⟩;unfold gu;rw[<-HX.o];exact S
variable{w:World}{l:List Int}{b g:Nat}
theorem slc_len{e:TypeId}{size n:Nat}{v:Value}{l:List Value}(S:aS w e size v n l):∃A c,v=.slice A n c:=by
 rcases S.2 with⟨rfl,rfl⟩|⟨g,cap,rest,rfl,_⟩
 .exact⟨none,0,rfl⟩
 .exact⟨_,cap,rfl⟩
theorem Tw(m:dE w b g l):
  Calls prog 150 #[mp b] w λe w'=>e=.returned (.int .i64 (gu l 0).length)/\Below w.heap.size w w':=by
 have K:=xh (jX m 0);unfold mp at *;go_enter func150,ntmps150;go_wp2_with fail;refine(K.o).mono ?_;rintro e w1 ⟨v,rfl,S,hb,-⟩;obtain⟨A,c,rfl⟩:=slc_len S;go_wp2_with fail;go_ret;exact⟨rfl,hb⟩
def bZ(l:List Int)(i:Int):Bool:=Ce l i && (l.getD i.toNat 0==2)
theorem qW(m:dE w b g l)(i:Int):
  Calls prog 192 #[mp b,.int .i64 i] w λe w'=>e=.returned (.bool (bZ l i))/\w=w':=by
 by_cases rV:Ce l i=true
 .have zq:=rV;simp only[Ce,decide_eq_true_eq]at zq;obtain⟨h0,h1⟩:=zq;obtain⟨k,rfl⟩:=eT h0;have hk:k<l.length:=by omega
  have c0:=m.c0;have ck:=m.ck k hk;have HF:=xh (show bZ l k=(l.getD k 0==2) by simp only[bZ,rV,JH,gI]);generalize l.getD k 0=x at ck HF;unfold mp;go_enter func192,ntmps192;go_wp2_with fail;refine(NJ m k rV).mono ?_;rintro e w1 ⟨rfl,rfl⟩;go_wp2_with fail;go_ret;exact⟨by rw[HF.o];rfl,rfl⟩
 .have zq:Ce l i=false:=by simpa using rV
  have HF:=xh (show bZ l i=false by simp only[bZ,zq,Bool.false_and]);unfold mp;go_enter func192,ntmps192;go_wp2_with fail;refine(at_no m i zq).mono ?_;rintro e w1 ⟨rfl,rfl⟩;go_wp2_with fail;go_ret;exact⟨by rw[HF.o];rfl,rfl⟩
end Fm
end Go.Proofs.YtmonobkginiajaaGreat
