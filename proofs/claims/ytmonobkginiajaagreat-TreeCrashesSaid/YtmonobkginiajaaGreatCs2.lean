/- packed. -/
import Derived.Test.YtmonobkginiajaaGreatCs1
set_option linter.all false
set_option maxRecDepth 100000
set_option maxHeartbeats 8000000
namespace Go.Proofs.YtmonobkginiajaaGreat
open Go.Proofs.Tryz
open Value renaming string→U7,slice→U3,int→U5,bool→WF,pointer→st,tuple→rg
open Ending renaming returned→fd
open IntKind renaming i64→U6
open Obj renaming cells→Pi
open Go renaming World→BY,Value→By,Calls→io,TypeId→us
open List renaming replicate→it
open UInt8 renaming ofNat→wf
namespace Dk
open Go.RowKit
variable{F c:UV}{o n i k:Nat}
def sec(F:UV)(i:Nat):UV:=(F.drop (64*i)).take 64
def lay(F:UV)(o:Nat)(c:UV):UV:=F.take o++c++F.drop (o+c.length)
def fA(F:UV)(i:Nat)(c:UV):UV:=lay F (64*i) c
def jj(h:o+c.length<=F.length):(lay F o c).length=F.length:=by
 simp[lay];omega
def tR(F:UV)(o:Nat)(c:UV):putAt (fq F) o (fq c)=fq (lay F o c):=by
 simp[putAt,lay,fq]
def ev(hF:F.length=64*n)(hi:i<n):(sec F i).length=64:=by
 simp[sec];omega
def ng(h:o+c.length<=F.length)(j:Nat):(lay F o c)[j]?=if o<=j/\j<o+c.length then c[j-o]? else F[j]?:=by
 unfold lay
 by_cases h1:j<o
 .rw[ge,cV,bX (by simp;omega),kr h1]
 .have e:(F.take o).length=o:=by simp;omega
  by_cases h2:j<o+c.length
  .rw[U8 ⟨by omega,h2⟩,cV,eC (by omega),e,bX (by omega)]
  .rw[ge,eC (by simp;omega),iu]
   congr 1
   simp;omega
def tT(F:UV)(i j:Nat):(sec F i)[j]?=if j<64 then F[64*i+j]? else none:=by
 unfold sec
 by_cases h:j<64
 .rw[U8 h,kr h,iu]
 .rw[U9 h,fw (by simp;omega)]
def wQ(hF:F.length=64*n)(hi:i<n)(hc:c.length=64)(_hk:k<n):sec (fA F i c) k=if i=k then c else sec F k:=by
 apply lr;intro j;rw[tT];unfold fA;rw[ng ls]
 by_cases hj:j<64
 .rw[U8 hj,hc]
  by_cases e:i=k
  .subst e;rw[U8 ⟨ls,ls⟩,U8 rfl]
   congr 1;omega
  .rw[ge,U9 e,tT,U8 hj]
 .rw[U9 hj]
  split
  .rw[fw ls]
  .rw[tT,U9 hj]
def kz(s:UV):UV:=s.take 64++it (64-s.length) 0
def j7(s:UV):(kz s).length=64:=by simp[kz];omega
def UA(F s:UV)(hF:F.length=64*n)(hi:i<n):lay (fA F i (it 64 0)) (64*i) (s.take 64)=fA F i (kz s):=by
 have h0:(fA F i (it 64 0)).length=F.length:=jj (by simp;omega);apply lr;intro j;have hz:=j7 s;rw[ng (by rw[h0];simp;omega)];unfold fA;rw[ng (by simp;omega),ng ls,hz];simp only[bY,eG]
 by_cases h1:64*i<=j/\j<64*i+min 64 s.length
 .rw[U8 h1,g8,kz,bX (by simp;omega)]
 .rw[U9 h1]
  by_cases h2:64*i<=j/\j<64*i+64
  .rw[U8 h2,U8 h2,kz,eC (by simp;omega),CF,CF];simp only[bY];rw[g8,g8]
  .rw[U9 h2,U9 h2]
def XY(F G:UV)(hF:F.length=64*n)(hG:G.length=64*n)(hi:i<n)(hk:k<=64):
  lay F (64*i+k) ((sec G i).drop k)=fA F i ((sec F i).take k++(sec G i).drop k):=by
 have e1:=ev hF hi;have e2:=ev hG hi;apply lr;intro j;unfold fA;rw[ng (by simp[e2];omega),ng (by simp[e1,e2];omega)];simp only[bC,bY,ef,e1,e2]
 by_cases h1:64*i+k<=j/\j<64*i+k+(64-k)
 .rw[U8 h1,g8,eC (by simp;omega)]
  congr 1
  simp;omega
 .rw[U9 h1]
  by_cases h2:64*i<=j/\j<64*i+(min k 64+(64-k))
  .rw[U8 h2,bX (by simp[e1];omega),kr ls,tT,g8]
   congr 1;omega
  .rw[U9 h2]
structure D where
 now:UV
 aR:UV
 loose:List Bool
 aq:Int
 calls:Int
 down:Bool
structure D.Ok(d:D)(n:Nat):Prop where
 now:d.now.length=64*n
 aR:d.aR.length=64*n
 loose:d.loose.length=n
 small:n<=4096
 aq:0<=d.aq
 calls:0<=d.calls
def D.gM(d:D):Int:=if d.down then 13 else 0
def D.jb(d:D)(n:Nat)(i:Int):Int:=if d.down then 13 else if 0<=i/\i<n then 0 else 3
def D.cG(d:D):D×Int:=
 if d.aq=0 then({d with calls:=d.calls+1},0)
 else if d.aq=1 then({d with calls:=d.calls+1,aq:=0,down:=true},13)
 else({d with calls:=d.calls+1,aq:=d.aq-1,down:=false},0)
def D.gE(d:D)(i:Nat):D:=if d.loose.getD i false then d else {d with aR:=fA d.aR i (sec d.now i),loose:=d.loose.set i true}
def D.dh(d:D)(i:Nat)(s:UV):D:={d.gE i with now:=fA d.now i (kz s)}
def D.ao(d:D)(n:Nat)(i:Int)(s:UV):D×Int:=
 if d.jb n i=0 then(d.dh i.toNat s).cG else(d,d.jb n i)
def D.cX(d:D):D×Int:=
 if d.down then(d,13)else if d.cG.2=0 then({d.cG.1 with loose:=it d.loose.length false},0)else d.cG
def D.A0(d:D)(n:Int):D×Int:=if d.down then(d,13)else if n<1 then(d,2)else({d with aq:=n},0)
def D.Ok.count{d:D}(h:d.Ok n):(d.cG).1.Ok n:=by
 have:=h.calls;have:=h.aq;unfold D.cG
 split
 .exact⟨h.now,h.aR,h.loose,h.small,h.aq,by show 0<=d.calls+1;omega⟩
 .split
  .exact⟨h.now,h.aR,h.loose,h.small,dG 0,by show 0<=d.calls+1;omega⟩
  .exact⟨h.now,h.aR,h.loose,h.small,by show 0<=d.aq-1;omega,by show 0<=d.calls+1;omega⟩
def D.Ok.rC{d:D}(h:d.Ok n)(i:Nat)(hi:i<n):(d.gE i).Ok n:=by
 unfold D.gE
 split
 .exact h
 .have e:=ev h.now hi;have:=h.aR;exact⟨h.now,by show(fA d.aR i (sec d.now i)).length=_;unfold fA;rw[jj ls];exact h.aR,by show(d.loose.set i true).length=_;rw[bR];exact h.loose,h.small,h.aq,h.calls⟩
def D.XZ(d:D)(i:Nat):(d.gE i).now=d.now:=by unfold D.gE;split<;>rfl
def D.Ok.put{d:D}(h:d.Ok n)(i:Nat)(s:UV)(hi:i<n):(d.dh i s).Ok n:=by
 have hk:=h.rC i hi;have e:=j7 s;have:=h.now;exact⟨by show(fA d.now i (kz s)).length=_;unfold fA;rw[jj ls];exact h.now,hk.aR,hk.loose,hk.small,hk.aq,hk.calls⟩
def D.Ok.write{d:D}(h:d.Ok n)(i:Int)(s:UV):(d.ao n i s).1.Ok n:=by
 unfold D.ao
 split
 .rename_i ha;have hi:0<=i/\i<n:=by
   unfold D.jb at ha
   split at ha
   .cases ha
   .split at ha
    .assumption
    .cases ha
  exact(h.put i.toNat s ls).count
 .exact h
def D.Ok.sync{d:D}(h:d.Ok n):(d.cX).1.Ok n:=by
 have hc:=h.count;unfold D.cX
 split
 .exact h
 .split
  .exact⟨hc.now,hc.aR,by show(it d.loose.length false).length=n;simp;exact h.loose,hc.small,hc.aq,hc.calls⟩
  .exact hc
def D.Ok.arm{d:D}(h:d.Ok n)(k:Int):(d.A0 k).1.Ok n:=by
 unfold D.A0
 split
 .exact h
 .split
  .exact h
  .exact⟨h.now,h.aR,h.loose,h.small,by show 0<=k;omega,h.calls⟩
variable{w:BY}{g:Nat}{t:us}{l:List By}
noncomputable def SH(w:BY)(v:By):Result By:=(Instr.loadAt 152 v).run prog w
noncomputable def SJ(w:BY)(a v:By):Result Unit:=(Instr.storeAt 152 a v).run prog w
def BJ(ρ:Operand->By)(dst:Option Tmp)(x:Operand)(t:us)(p:String)(af:Array Edge)(g:Option (Nat×Bool))(w:BY):
  (execOp ρ {dst:=dst,op:= .load 152 x,type:=t,pos:=p,after:=af,guard:=g}).run prog w=(SH w (ρ x)).andThen λv w'=> .ok (.value v) w':=by
 simp only[execOp,Sem.run_bind,Sem.run_pure];rfl
def BL(ρ:Operand->By)(dst:Option Tmp)(x y:Operand)(t:us)(p:String)(af:Array Edge)(g:Option (Nat×Bool))(w:BY):
  (execOp ρ {dst:=dst,op:= .store 152 x y,type:=t,pos:=p,after:=af,guard:=g}).run prog w=(SJ w (ρ x) (ρ y)).andThen λ_ w'=> .ok .skip w':=by
 simp only[execOp,Sem.run_bind,Sem.run_pure];rfl
noncomputable def rU:By:= .agg (fq (it 64 0)).toArray
def tU(ρ:Operand->By)(dst:Option Tmp)(t:us)(p:String)(af:Array Edge)(g:Option (Nat×Bool))(w:BY):
  (execOp ρ {dst:=dst,op:= .build 152 #[],type:=t,pos:=p,after:=af,guard:=g}).run prog w=.ok (.value rU) w:=pm
def zZ:prog.underlying 152=some (.array 64 5):=underlying152
def C9:(prog.info? 152).map (·.size)=some 64:=pm
def X0(B:aM w g t l.toArray)(o:Nat)(c:List By)(hc:c.length=64)(h:∀j v,c[j]?=some v->l[o+j]?=some v):
  SH w (st (some ⟨g,o,none⟩))= .ok (.agg c.toArray) w:=by
 have hl:=run_loadCells_list (P:=prog) w ⟨g,o,none⟩ c (bT B o c h);rw[hc]at hl;unfold SH Instr.loadAt;obtain⟨i,hi,hs⟩:∃i,prog.info? 152=some i/\i.size=64:=by
  have:=C9
  cases hq:prog.info? 152 with
  |none=>rw[hq]at this;cases this
  |some i=>rw[hq]at this;exact⟨i,rfl,by simpa using this⟩
 simp[Instr.sureAddr,loadVar,isAgg,run_underlying zZ,sizeOf,typeInfo,hi,hs,hl,Result.andThen]
def Lb(B:aM w g t l.toArray)(o:Nat)(c:List By)(hc:c.length=64)(ho:o+64<=l.length)(h1:∀v∈c,v.oneCell'=true):
  ∃w',SJ w (st (some ⟨g,o,none⟩)) (.agg c.toArray)= .ok () w'/\aM w' g t (putAt l o c).toArray/\ah [g] w w':=by
 have x6:=run_storeCells_cells (P:=prog) g o c 0 w (λj hj=>by rw[B.cell];simp;omega) (λj hj=>B.frozen _ (by simp;omega)) h1;refine⟨w.setCells g o c,?_,B.setCells c o ls,(ah.refl _ _).setCells c o lw⟩;unfold SJ Instr.storeAt;obtain⟨i,hi,hs⟩:∃i,prog.info? 152=some i/\i.size=64:=by
  have:=C9
  cases hq:prog.info? 152 with
  |none=>rw[hq]at this;cases this
  |some i=>rw[hq]at this;exact⟨i,rfl,by simpa using this⟩
 simp only[mq]at x6;simp[Instr.sureAddr,storeVar,Value.cells,sizeOf,typeInfo,hi,hs,hc,x6,Result.andThen]
variable{w:BY}{n:Nat}{d:D}
structure Loc where
 b:Nat
 gN:Nat
 gO:Nat
 gL:Nat
def Loc.fp(L:Loc):List Nat:=[L.b,L.gN,L.gO,L.gL]
def rm(l:List Bool):List By:=l.map Value.bool
@[simp] theorem bools_length(l:List Bool):(rm l).length=l.length:=by simp[rm]
def yx(l:List Bool)(k:Nat)(h:k<l.length):(rm l)[k]?=some (WF (l.getD k false)):=by
 simp[rm,List.getD,h]
def GB(l:List Bool)(k:Nat)(x:Bool):(rm l).set k (WF x)=rm (l.set k x):=by simp[rm]
def fields(L:Loc)(n:Nat)(d:D):Array By:=
 #[U3 (lc L.gN) n n,U3 (lc L.gO) n n,U3 (lc L.gL) n n,U5 U6 d.aq,U5 U6 d.calls,WF d.down]
structure aX(w:BY)(L:Loc)(n:Nat)(d:D):Prop where
 hb:aM w L.b 149 (fields L n d)
 hN:aM w L.gN 152 (fq d.now).toArray
 hO:aM w L.gO 152 (fq d.aR).toArray
 hL:aM w L.gL 4 (rm d.loose).toArray
 ne:L.gN≠L.gO
 ok:d.Ok n
section
variable{w w':BY}{L:Loc}{n:Nat}{d:D}{S:List Nat}
def aX.only(h:aX w L n d)(ho:ah S w w')(hd:∀x∈L.fp,x∉S):aX w' L n d:=
 ⟨h.hb.only ho (hd _ (by simp[Loc.fp])),h.hN.only ho (hd _ (by simp[Loc.fp])),h.hO.only ho (hd _ (by simp[Loc.fp])),h.hL.only ho (hd _ (by simp[Loc.fp])),h.ne,h.ok⟩
def aX.below(h:aX w L n d)(hb:i7 w w'):aX w' L n d:=h.only (S:=[]) (.aj hb) lw
def aX.drew(h:aX w L n d):aX w.drew L n d:=⟨h.hb,h.hN,h.hO,h.hL,h.ne,h.ok⟩
def aX.lt(h:aX w L n d):∀x∈L.fp,x<w.heap.size:=by
 intro x hx;simp only[Loc.fp,ax,iD,or_false]at hx
 rcases hx with rfl|rfl|rfl|rfl
 .exact h.hb.lt
 .exact h.hN.lt
 .exact h.hO.lt
 .exact h.hL.lt
def aX.bN(h:aX w L n d):L.b≠L.gN:=h.hb.mx h.hN ms
def aX.bO(h:aX w L n d):L.b≠L.gO:=h.hb.mx h.hO ms
def aX.bL(h:aX w L n d):L.b≠L.gL:=h.hb.mx h.hL ms
def aX.LN(h:aX w L n d):L.gL≠L.gN:=h.hL.mx h.hN ms
def aX.LO(h:aX w L n d):L.gL≠L.gO:=h.hL.mx h.hO ms
def aX.f0(h:aX w L n d):w.cell? (lc L.b)=some (U3 (lc L.gN) n n):=h.hb.ae rfl
def aX.f1(h:aX w L n d):w.cell? ⟨L.b,1,none⟩=some (U3 (lc L.gO) n n):=h.hb.ae rfl
def aX.f2(h:aX w L n d):w.cell? ⟨L.b,2,none⟩=some (U3 (lc L.gL) n n):=h.hb.ae rfl
def aX.f3(h:aX w L n d):w.cell? ⟨L.b,3,none⟩=some (d.aq:li):=h.hb.ae rfl
def aX.f4(h:aX w L n d):w.cell? ⟨L.b,4,none⟩=some (d.calls:li):=h.hb.ae rfl
def aX.f5(h:aX w L n d):w.cell? ⟨L.b,5,none⟩=some (WF d.down):=h.hb.ae rfl
def aX.fz(h:aX w L n d)(i:Nat)(hi:i<6):w.frozen? ⟨L.b,i,none⟩=false:=h.hb.frozen i (by simpa [fields]using hi)
def aX.head(h:aX w L n d){d':D}(B:aM w' L.b 149 (fields L n d'))(ho:ah [L.b] w w')(e1:d'.now=d.now)(e2:d'.aR=d.aR)(e3:d'.loose=d.loose)(fN:d'.Ok n):aX w' L n d':=by
 refine⟨B,?_,?_,?_,h.ne,fN⟩
 .rw[e1];exact h.hN.only ho (by simp;exact λe=>h.bN e.symm)
 .rw[e2];exact h.hO.only ho (by simp;exact λe=>h.bO e.symm)
 .rw[e3];exact h.hL.only ho (by simp;exact λe=>h.bL e.symm)
end
def dp(b:Nat):By:=st (some ⟨b,0,none⟩)
def jC{L:Loc}(h:aX w L n d):
  io prog 77 #[dp L.b] w λe w'=>e=fd d.gM/\w=w':=by
 have f5:=h.f5;unfold dp D.gM;clear h
 cases hd:d.down
 all_goals
  rw[hd]at f5;go_in
  go_wp2
  go_ret;exact⟨rfl,rfl⟩
def rV{L:Loc}(h:aX w L n d)(i:Int):
  io prog 134 #[dp L.b,i] w λe w'=>e=fd (U5 U6 (d.jb n i))/\w=w':=by
 have f0:=h.f0;have hn:=h.ok.small;have K:=xh<|jC h;unfold D.gM at K;unfold D.jb;unfold dp at *;clear h
 cases hd:d.down
 .rw[hd]at K;simp only[oH,if_false]at K ⊢
  by_cases hi:0<=i/\i<n
  .rw[U8 hi];obtain⟨h0,h1⟩:=hi;go_in;go_wp2_with fail;go_call K.o as e w1 ⟨rfl,rfl⟩;go_wp2;go_ret;exact⟨rfl,rfl⟩
  .rw[U9 hi];have pk:i<0\/(¬i<0/\(n:Int)<=i):=ls
   clear hi
   rcases pk with h1|⟨h1,h2⟩
   all_goals
    go_in;go_wp2_with fail;go_call K.o as e w1 ⟨rfl,rfl⟩;go_wp2;go_ret;exact⟨rfl,rfl⟩
 .rw[hd]at K;simp only[if_true]at K ⊢;go_in;go_wp2_with fail;go_call K.o as e w1 ⟨rfl,rfl⟩;go_wp2;go_ret;exact⟨rfl,rfl⟩
def vB{L:Loc}(h:aX w L n d)(hc:d.calls<=4000000000000000000)(ha:d.aq<=9223372036854775807):
  io prog 159 #[dp L.b] w λe w'=>e=fd (U5 U6 d.cG.2)/\aX w' L n d.cG.1/\ah [L.b] w w':=by
 have f3:=h.f3;have f4:=h.f4;have z3:=h.fz 3 (by omega);have z4:=h.fz 4 (by omega);have z5:=h.fz 5 (by omega);have f5:=h.f5;have a0:=h.ok.aq;have c0:=h.ok.calls;have H:=xh h;have B:=xh h.hb;have OKC:=xh h.ok.count;clear h
 by_cases h0:d.aq=0
 .have e1:d.cG=({d with calls:=d.calls+1},0):=by unfold D.cG;rw[U8 h0]
  rw[e1];rw[e1]at OKC;rw[h0]at f3;have HA:=xh h0;clear h0 e1;unfold dp;go_in;go_wp2;go_ret;have o1:ah [L.b] w (w.setCell ⟨L.b,4,none⟩ (U5 U6 (d.calls+1))):=(ah.refl _ _).setCell (by simp) _;exact⟨rfl,H.o.head (B.o.ct 4 _) o1 rfl rfl rfl OKC.o,o1⟩
 .by_cases h1:d.aq=1
  .have e1:d.cG=({d with calls:=d.calls+1,aq:=0,down:=true},13):=by unfold D.cG;rw[U9 h0,U8 h1]
   rw[e1];rw[e1]at OKC;rw[h1]at f3;have o1:ah [L.b] w (((w.setCell ⟨L.b,4,none⟩ (U5 U6 (d.calls+1))).setCell ⟨L.b,3,none⟩ (U5 U6 0)).setCell ⟨L.b,5,none⟩ (WF true)):=(((ah.refl _ _).setCell (by simp) _).setCell (by simp) _).setCell (by simp) _;have D1:=H.o.head (d':={d with calls:=d.calls+1,aq:=0,down:=true}) ((((B.o.ct 4 (U5 U6 (d.calls+1))).ct 3 (U5 U6 0)).ct 5 (WF true))) o1 rfl rfl rfl OKC.o;have K:=xh<|jC D1;have D1:=xh D1
   have O1:=xh o1;clear h0 h1 e1 o1;unfold D.gM dp at *;go_in;go_wp2_with fail;go_call K.o as e w1 ⟨rfl,rfl⟩;go_wp2;go_ret;exact⟨rfl,D1.o,O1.o⟩
  .have e1:d.cG=({d with calls:=d.calls+1,aq:=d.aq-1,down:=false},0):=by unfold D.cG;rw[U9 h0,U9 h1]
   rw[e1];rw[e1]at OKC;have o1:ah [L.b] w (((w.setCell ⟨L.b,4,none⟩ (U5 U6 (d.calls+1))).setCell ⟨L.b,3,none⟩ (U5 U6 (d.aq-1))).setCell ⟨L.b,5,none⟩ (WF false)):=(((ah.refl _ _).setCell (by simp) _).setCell (by simp) _).setCell (by simp) _;have D1:=H.o.head (d':={d with calls:=d.calls+1,aq:=d.aq-1,down:=false}) ((((B.o.ct 4 (U5 U6 (d.calls+1))).ct 3 (U5 U6 (d.aq-1))).ct 5 (WF false))) o1 rfl rfl rfl OKC.o;have K:=xh<|jC D1
   have D1:=xh D1;have O1:=xh o1;have t0:(d.aq==0)=false:=by simpa using h0
   have t1:(d.aq-1==0)=false:=by simp;omega
   clear e1 o1;unfold D.gM dp at *;go_in;go_wp2_with fail;go_call K.o as e w1 ⟨rfl,rfl⟩;go_wp2;go_ret;exact⟨rfl,D1.o,O1.o⟩
attribute [local go_sem ↓] BJ BL tU
variable{k n:Nat}{w:BY}{L:Loc}
def GC{F:UV}(j:Nat)(v:By)(h:(fq (sec F k))[j]?=some v):(fq F)[k*64+j]?=some v:=by
 rw[tM,tT]at h;rw[tM]
 split at h
 .rw[show k*64+j=64*k+j by omega];exact h
 .simp at h
def D.aO(d:D)(n:Nat)(i:Int):UV×Int:=if d.jb n i=0 then(sec d.now i.toNat,0)else([],d.jb n i)
def X1{d:D}{i:Int}(h:d.jb n i=0):0<=i/\i<n:=by
 unfold D.jb at h
 split at h
 .cases h
 .split at h
  .assumption
  .cases h
def GF(d:D)(n:Nat)(i:Int):d.jb n i=0\/((d.jb n i==0)=false):=by
 by_cases h:d.jb n i=0
 .exact .inl h
 .exact .inr (by simpa using h)
def mG{d:D}(h:aX w L n d)(i:Int):
  io prog 79 #[dp L.b,i] w λe w'=>e=fd (rg #[U7 ⟨(d.aO n i).1.toArray⟩,U5 U6 (d.aO n i).2])/\w=w':=by
 have K:=xh<|rV h i;have hn:=h.ok.small
 rcases GF d n i with ha|ha
 .have hi:=X1 ha;have e1:d.aO n i=(sec d.now i.toNat,0):=by unfold D.aO;rw[U8 ha]
  rw[e1];rw[ha]at K;obtain⟨k,rfl⟩:=fu hi.1;have hk:k<n:=ls
  have f0:=h.f0;have x6:=λ(a b:Nat) (ha:64=a) (hb:k*64=b)=>(cQ (P:=prog) w 150 9 5 underlying150 underlying5 underlying9 ⟨L.gN,b,none⟩ a a (sec d.now k) (ha▸ev h.ok.now hk) (hb▸bT h.hN (k*64) _ GC));have HS:=xh<|x6 64 (k*64) rfl rfl;clear x6 e1 ha hi h;unfold dp at *;go_in;go_wp2_with fail;go_call K.o as e w1 ⟨rfl,rfl⟩;go_wp2_with fail;rw[HS.o];go_wp2;go_ret2;exact⟨rfl,rfl⟩
 .have e1:d.aO n i=([],d.jb n i):=by unfold D.aO;rw[U9 (by simpa using ha)]
  rw[e1];generalize d.jb n i=x at *;clear e1 h;unfold dp at *;go_in;go_wp2_with fail;go_call K.o as e w1 ⟨rfl,rfl⟩;go_wp2;go_ret2;exact⟨rfl,rfl⟩
def UB(F:UV)(s:Nm)(hF:F.length=64*n)(hk:k<n):
  putAt (putAt (fq F) (k*64) (fq (it 64 0))) (k*64) (fq (s.data.toList.take (Nat.min s.size 64)))=fq (fA F k (kz s.data.toList)):=by
 rw[tR,tR,<-UA F s.pu hF hk];have e:s.pu.take (Nat.min s.size 64)=s.pu.take 64:=by
  rcases Nat.le_total s.size 64 with h|h
  .rw[show Nat.min s.size 64=s.size from tJ h,cR lw,cR (by simpa using h)]
  .rw[show Nat.min s.size 64=64 from Nat.min_eq_right h]
 rw[e,show k*64=64*k from tL _ _];rfl
def m8:(prog.info? 5).map (·.size)=some 1:=pm
def SO{d:D}(h:aX w L n d)(k:Nat)(hk:k<n)(s:Nm):
  ∃w1,SJ w (st (some ⟨L.gN,k*64,none⟩)) rU=.ok () w1/\ah [L.gN] w w1/\
   ∃w2,(Builtin.copy_ #[150,9] 3 #[U3 (some ⟨L.gN,k*64,none⟩) 64 64,U7 s]).run prog w1=.ok (goInt (Nat.min s.size 64)) w2/\aX w2 L n {d with now:=fA d.now k (kz s.data.toList)}/\ah [L.gN] w w2:=by
 have hlen:=h.ok.now;obtain⟨w1,e1,B1,o1⟩:=Lb h.hN (k*64) (fq (it 64 0)) (by simp) (by simp;omega) (tN _);obtain⟨w2,e2,B2,o2⟩:=oM (P:=prog) B1 150 9 3 5 (k*64) 64 64 s (Nat.min s.size 64) underlying150 m8 rfl (by rw[lB (by simp;omega)];have hm:Nat.min s.size 64<=64:=Nat.min_le_right _ _;rw[jS,hlen];omega);rw[UB _ _ hlen hk]at B2;have o:=o1.trans o2
 refine⟨w1,e1,o1,w2,e2,⟨h.hb.only o (by simp;exact h.bN),B2,h.hO.only o (by simp;exact λe=>h.ne e.symm),h.hL.only o (by simp;exact h.LN),h.ne,?_⟩,o⟩;have:=j7 s.data.toList;exact⟨by show(fA d.now k _).length=_;unfold fA;rw[jj (by omega)];exact hlen,h.ok.aR,h.ok.loose,h.ok.small,h.ok.aq,h.ok.calls⟩
def X3{w':BY}{d:D}(h:aX w L n d)(o:ah [L.gN] w w'):w'.cell? (lc L.b)=some (U3 (lc L.gN) n n):=
 (o.cell h.hb.lt (by simp;exact h.bN)).trans h.f0
def UD{d:D}(h:aX w L n d)(k:Nat)(hk:k<n)(s:Nm)(ha:d.jb n k=0)(hc:d.calls<=4000000000000000000)(hr:d.aq<=9223372036854775807)(hl:d.loose.getD k false=false):
  io prog 103 #[dp L.b,k,U7 s] w λe w'=>e=fd (U5 U6 ((d.dh k s.data.toList).cG).2)/\aX w' L n ((d.dh k s.data.toList).cG).1/\ah L.fp w w':=by
 have K:=xh<|rV h k;have hn:=h.ok.small;rw[ha]at K;have f0:=h.f0;have f1:=h.f1;have f2:=h.f2;have cl:w.cell? ⟨L.gL,k,none⟩=some (WF false):=by
  rw[<-hl];refine h.hL.ae ?_;rw[dr,yx _ _ (by rw[h.ok.loose];exact hk)]
 have Da:d.gE k={d with aR:=fA d.aR k (sec d.now k),loose:=d.loose.set k true}:=by unfold D.gE;rw[hl];rfl
 have mQ:d.dh k s.pu={d.gE k with now:=fA (d.gE k).now k (kz s.pu)}:=by unfold D.dh;rw[D.XZ]
 have DC:(d.gE k).calls=d.calls:=by rw[Da]
 have DA:(d.gE k).aq=d.aq:=by rw[Da]
 have fN:=h.ok.rC k hk;rw[mQ];have hld:SH w.drew (st (some ⟨L.gN,k*64,none⟩))= .ok (.agg (fq (sec d.now k)).toArray) w.drew:=X0 h.hN.drew (k*64) _ (by rw[jS,ev h.ok.now hk]) GC;obtain⟨w2,x6,B2,o2⟩:=Lb h.hO.drew (k*64) (fq (sec d.now k)) (by rw[jS,ev h.ok.now hk]) (by have:=h.ok.aR;simp;omega) (tN _);have cl2:w2.cell? ⟨L.gL,k,none⟩=some (WF false):=(o2.cell (dU cl) (by simp;exact h.LO)).trans cl
 have fl2:w2.frozen? ⟨L.gL,k,none⟩=false:=(o2.frozen (dU cl) (by simp;exact h.LO)).trans (h.hL.frozen k (by simp;rw[h.ok.loose];exact hk));have o2':ah L.fp w w2:=⟨o2.os,o2.tape,o2.output,o2.size,λb hb hn=>o2.block b hb (by simp[Loc.fp]at hn ⊢;exact hn.2.2.1)⟩;have hD:aX (w2.setCell ⟨L.gL,k,none⟩ (WF true)) L n (d.gE k):=by
  rw[Da]at fN ⊢;have B3:=((h.hL.drew.only o2 (by simp;exact h.LO)).ct k (WF true));rw[tF,GB]at B3;rw[tR]at B2;refine⟨(h.hb.drew.only o2 (by simp;exact h.bO)).bh (by exact h.bL) _,(h.hN.drew.only o2 (by simp;exact h.ne)).bh (by exact λe=>h.LN e.symm) _,?_,B3,h.ne,fN⟩;have:=B2.bh (p:=⟨L.gL,k,none⟩) (λe=>h.LO e.symm) (WF true)
  rwa [show k*64=64*k from tL _ _]at this
 have oD:ah L.fp w (w2.setCell ⟨L.gL,k,none⟩ (WF true)):=o2'.setCell (by simp[Loc.fp]) _;clear Da mQ fN ha B2 o2 o2' h;generalize d.gE k=d1 at *;unfold dp at *;go_in;go_wp2_with fail;go_call K.o as e w1 ⟨rfl,rfl⟩;go_wp2_with fail
 go_region
 clear hld x6 f0 f1 f2 cl cl2 fl2;generalize w2.setCell ⟨L.gL,k,none⟩ (WF true)=w3 at *;have f0':=hD.f0;obtain⟨w4,st4,o4,w5,cp5,D5,o5⟩:=SO hD k hk s;have f04:=X3 hD o4;have CP:=xh cp5;have KC:=xh<|vB D5 (by rw[DC];exact hc) (by rw[DA];exact hr);have HD:=xh D5;have O5:=xh<|oD.trans (o5.mono (S':=L.fp) (by simp[Loc.fp]));clear hD oD cp5 D5 o4 o5 DC DA;unfold dp at KC;go_wp2_with fail;rw[CP.o];go_wp2_with fail;refine KC.o.mono ?_
 rintro e w6 ⟨rfl,D6,o6⟩;go_wp2;go_ret;exact⟨rfl,D6,O5.o.trans (o6.mono (by simp[Loc.fp]))⟩
def yy{d:D}(h:aX w L n d)(k:Nat)(hk:k<n)(s:Nm)(ha:d.jb n k=0)(hc:d.calls<=4000000000000000000)(hr:d.aq<=9223372036854775807)(hl:d.loose.getD k false=true):
  io prog 103 #[dp L.b,k,U7 s] w λe w'=>e=fd (U5 U6 ((d.dh k s.data.toList).cG).2)/\aX w' L n ((d.dh k s.data.toList).cG).1/\ah L.fp w w':=by
 have K:=xh<|rV h k;have hn:=h.ok.small;rw[ha]at K;have f0:=h.f0;have f1:=h.f1;have f2:=h.f2;have cl:w.cell? ⟨L.gL,k,none⟩=some (WF true):=by
  rw[<-hl];refine h.hL.ae ?_;rw[dr,yx _ _ (by rw[h.ok.loose];exact hk)]
 have Da:d.gE k=d:=by unfold D.gE;rw[hl];rfl
 have mQ:d.dh k s.pu={d with now:=fA d.now k (kz s.pu)}:=by unfold D.dh;rw[Da]
 rw[mQ];have hD:=h;have oD:ah L.fp w w:=ah.refl _ _;have DC:d.calls=d.calls:=rfl;have DA:d.aq=d.aq:=rfl;have HDC:=xh DC;clear Da mQ ha h DC DA;unfold dp at *;have f0':=hD.f0;obtain⟨w4,st4,o4,w5,cp5,D5,o5⟩:=SO hD k hk s;have f04:=X3 hD o4;have CP:=xh cp5;have KC:=xh<|vB D5 hc hr;have HD:=xh D5;have O5:=xh<|oD.trans (o5.mono (S':=L.fp) (by simp[Loc.fp]));clear hD oD cp5 D5 o4 o5;unfold dp at KC;go_in
 go_wp2_with fail;go_call K.o as e w1 ⟨rfl,rfl⟩;go_wp2_with fail;rw[CP.o];go_wp2_with fail;go_call KC.o as e w6 ⟨rfl,D6,o6⟩;go_wp2;go_ret;exact⟨rfl,D6,O5.o.trans (o6.mono (by simp[Loc.fp]))⟩
end Dk
namespace Dk
open Go.RowKit
variable{w:BY}{L:Loc}{n:Nat}{d:D}
def tV(h:aX w L n d)(i:Int)(s:Nm)(hc:d.calls<=4000000000000000000)(hr:d.aq<=9223372036854775807):
  io prog 103 #[dp L.b,i,U7 s] w λe w'=>e=fd (U5 U6 (d.ao n i s.data.toList).2)/\aX w' L n (d.ao n i s.data.toList).1/\ah L.fp w w':=by
 rcases GF d n i with ha|ha
 .have hi:=X1 ha;obtain⟨k,rfl⟩:=fu hi.1;have e1:d.ao n k s.pu=(d.dh k s.pu).cG:=by unfold D.ao;rw[U8 ha];rfl
  rw[e1]
  cases hl:d.loose.getD k false
  .exact UD h k ls s ha hc hr hl
  .exact yy h k ls s ha hc hr hl
 .have e1:d.ao n i s.pu=(d,d.jb n i):=by unfold D.ao;rw[U9 (by simpa using ha)]
  rw[e1];have K:=xh<|rV h i;have H:=xh h;generalize d.jb n i=x at *;clear e1 h;unfold dp at *;go_in;go_wp2_with fail;go_call K.o as e w1 ⟨rfl,rfl⟩;go_wp2;go_ret;exact⟨rfl,H.o,ah.refl _ _⟩
def Ge(z:By)(n:Nat):(Builtin.zeroCells #[z] n).toList=it n z:=by
 unfold Builtin.zeroCells;apply vq
 .simp
 .intro i h1 h2;simp[Nat.mod_one]
def UE(l c:List By)(h:l.length=c.length):putAt l 0 c=c:=by
 simp[putAt,h]
def UF{P:Program}{g:Nat}{t T e:us}{l:List By}(B:aM w g t l.toArray)(ht:P.underlying T=some (.slice e)){z:By}(hz:∀w,(zeroValue e).run P w=.ok z w)(h1:z.cells= #[z])(kH:z.oneCell'=true)(ty:us)(n c:Nat)(hn:l.length=n):
  ∃w',(Builtin.clear_ #[T] ty #[U3 (lc g) n c]).run P w=.ok (rg #[]) w'/\aM w' g t (it n z).toArray/\ah [g] w w':=by
 rcases wI n with h0|h0
 .subst h0;have:l=[]:=pf hn;subst this;exact⟨w,by simp[Builtin.clear_,run_underlying ht],B,ah.refl _ _⟩
 .have x6:=run_storeCells_cells (P:=P) g 0 (it n z) 0 w (λj hj=>by rw[B.cell];simp at hj ⊢;omega) (λj hj=>B.frozen _ (by simp at hj ⊢;omega)) (by intro v hv;rw[(List.mem_replicate.1 hv).2];exact kH);refine⟨w.setCells g 0 (it n z),?_,?_,(ah.refl _ _).setCells _ 0 lw⟩
  .obtain⟨m,rfl⟩:∃m,n=m+1:=⟨n-1,ls⟩;simp only[mq]at x6;simp[Builtin.clear_,run_underlying ht,hz,h1,Ge,x6,Result.andThen]
  .have:=B.setCells (it n z) 0 (by simp;omega)
   rwa [UE _ _ (by simp;omega)]at this
def Db(h:aX w L n d)(hc:d.calls<=4000000000000000000)(hr:d.aq<=9223372036854775807):
  io prog 104 #[dp L.b] w λe w'=>e=fd d.cX.2/\aX w' L n d.cX.1/\ah L.fp w w':=by
 have K:=xh<|jC h;have KC:=xh<|vB h hc hr;have Kq:=xh h.ok.sync;unfold D.gM at K
 cases hd:d.down
 .rw[hd]at K;simp only[oH,if_false]at K
  by_cases h0:d.cG.2=0
  .have e1:d.cX=({d.cG.1 with loose:=it d.loose.length false},0):=by
    unfold D.cX;rw[hd,i8,U8 h0]
   have wM:=h.ok.loose;rw[wM]at e1;rw[e1];rw[e1]at Kq;rw[h0]at KC;have Kr:d.cG.1.loose.length=n:=by
    have:=h.ok.count.loose;exact this
   clear e1 h0 hd h wM;generalize d.cG.1=d1 at *;unfold dp at *;go_in;go_wp2_with fail;go_call K.o as e w1 ⟨rfl,rfl⟩;go_wp2_with fail;go_call KC.o as e w2 ⟨rfl,D2,o2⟩;have f2:=D2.f2;obtain⟨w3,ec,B3,o3⟩:=UF (P:=prog) D2.hL underlying65 (z:=WF false) (λ_=>by kernel_rfl) rfl rfl 0 n n (by simpa using Kr);have EC:=xh ec;clear ec Kr;go_wp2_with fail;rw[EC.o];go_wp2;go_ret
   refine⟨rfl,⟨D2.hb.only o3 (by simp;exact D2.bL),D2.hN.only o3 (by simp;exact λe=>D2.LN e.symm),D2.hO.only o3 (by simp;exact λe=>D2.LO e.symm),?_,D2.ne,Kq.o⟩,(o2.mono (by simp[Loc.fp])).trans (o3.mono (by simp[Loc.fp]))⟩;simpa [rm]using B3
  .have e1:d.cX=d.cG:=by
    unfold D.cX;rw[hd,i8,U9 h0]
   rw[e1];have fy:(d.cG.2==0)=false:=by simpa using h0
   generalize d.cG=dd at *;clear e1 h0 hd h;obtain⟨d1,x⟩:=dd;simp only at fy KC;unfold dp at *;go_in;go_wp2_with fail;go_call K.o as e w1 ⟨rfl,rfl⟩;go_wp2_with fail;go_call KC.o as e w2 ⟨rfl,D2,o2⟩;go_wp2;go_ret;exact⟨rfl,D2,o2.mono (by simp[Loc.fp])⟩
 .rw[hd]at K;simp only[if_true]at K;have e1:d.cX=(d,13):=by unfold D.cX;rw[hd,U8 rfl]
  rw[e1];have H:=xh h;clear e1 hd h;unfold dp at *;go_in;go_wp2_with fail;go_call K.o as e w1 ⟨rfl,rfl⟩;go_wp2;go_ret;exact⟨rfl,H.o,ah.refl _ _⟩
def arm_any(h:aX w L n d)(k:Int):
  io prog 31 #[dp L.b,k] w λe w'=>e=fd (U5 U6 (d.A0 k).2)/\aX w' L n (d.A0 k).1/\ah L.fp w w':=by
 have K:=xh<|jC h;have Kq:=xh<|h.ok.arm k;unfold D.gM at K
 cases hd:d.down
 .rw[hd]at K;simp only[oH,if_false]at K
  by_cases hk:k<1
  .have e1:d.A0 k=(d,2):=by unfold D.A0;rw[hd,i8,U8 hk]
   rw[e1];have H:=xh h;clear e1 hd h;unfold dp at *;go_in;go_wp2_with fail;go_call K.o as e w1 ⟨rfl,rfl⟩;go_wp2;go_ret;exact⟨rfl,H.o,ah.refl _ _⟩
  .have e1:d.A0 k=({d with aq:=k},0):=by unfold D.A0;rw[hd,i8,U9 hk]
   rw[e1];rw[e1]at Kq;have H:=xh h;have f3:=h.f3;have z3:=h.fz 3 ls;clear e1 hd h;unfold dp at *;go_in;go_wp2_with fail;go_call K.o as e w1 ⟨rfl,rfl⟩;go_wp2;go_ret;have o1:ah [L.b] w (w.setCell ⟨L.b,3,none⟩ k):=(ah.refl _ _).setCell lw _;exact⟨rfl,H.o.head (d':={d with aq:=k}) (H.o.hb.ct 3 _) o1 rfl rfl rfl Kq.o,o1.mono (by simp[Loc.fp])⟩
 .rw[hd]at K;simp only[if_true]at K;have e1:d.A0 k=(d,13):=by unfold D.A0;rw[hd,U8 rfl]
  rw[e1];have H:=xh h;clear e1 hd h;unfold dp at *;go_in;go_wp2_with fail;go_call K.o as e w1 ⟨rfl,rfl⟩;go_wp2;go_ret;exact⟨rfl,H.o,ah.refl _ _⟩
def Lc(h:aX w L n d):
  io prog 30 #[dp L.b] w λe w'=>e=fd (WF d.down)/\w=w':=by
 have f5:=h.f5;unfold dp;go_in
 go_wp2
 go_ret;exact⟨rfl,rfl⟩
def Ld(h:aX w L n d):
  io prog 182 #[dp L.b] w λe w'=>e=fd n/\w=w':=by
 have f0:=h.f0;unfold dp;go_in
 go_wp2
 go_ret;exact⟨rfl,rfl⟩
attribute [local go_sem ↓] BJ BL tU
def D.zero(n:Nat):D:={now:=it (64*n) 0,aR:=it (64*n) 0,loose:=it n false,aq:=0,calls:=0,down:=false}
def Py:(prog.info? 152).map (λi=>(i.zero,i.size,i.bytes))=some (some rU,64,64):=pm
def UG:(prog.info? 4).map (λi=>(i.zero,i.size,i.bytes))=some (some (WF false),1,1):=pm
def Ba(n:Nat):madeCells rU.cells (n*64)=(fq (it (64*n) 0)).toArray:=by
 have h0:rU.cells=(it 64 (Value.int .u8 0)).toArray:=by
  show(fq (it 64 0)).toArray=_;rw[fq,List.map_replicate];rfl
 have hz:∀k,k<64->rU.cells[k]! =U5 .u8 0:=by
  intro k h;rw[h0,getElem!_pos _ k (by rw[mh,eG];exact h),List.getElem_toArray,List.getElem_replicate]
 have hs:rU.cells.size=64:=by rw[h0,mh,eG]
 apply Array.ext
 .simp[size_madeCells];omega
 .intro i h1 h2;simp only[madeCells,hs];rw[Array.getElem_map,Array.getElem_range,hz _ (qz _ ms)];simp[fq,bv]
def rowN(n:Nat):Obj:=Pi (fq (it (64*n) 0)).toArray 152
def rowL(n:Nat):Obj:=Pi (rm (it n false)).toArray 4
def UH(n:Nat)(hn:n<=4096)(w:BY):
  (Instr.makeSlice 147 n n).run prog w=.ok (U3 (lc w.heap.size) n n) (w.alloc (rowN n)):=by
 obtain⟨i0,hi,lC,kH,lM⟩:=info_parts Py;have h:=run_make (P:=prog) w 147 152 i0 rU underlying147 hi lC U6 U6 n n ls (dG _) (by rw[lM];omega) ls;rw[h,kH];simp only[iL,Ba];rfl
def Pz(n:Nat)(hn:n<=4096)(w:BY):
  (Instr.makeSlice 65 n n).run prog w=.ok (U3 (lc w.heap.size) n n) (w.alloc (rowL n)):=by
 obtain⟨i0,hi,lC,kH,lM⟩:=info_parts UG;have h:=run_make (P:=prog) w 65 4 i0 (WF false) underlying65 hi lC U6 U6 n n ls (dG _) (by rw[lM];omega) ls;rw[h,kH];have e:madeCells (Value.bool false).cells (((n:Int).toNat)*1)=(rm (it n false)).toArray:=by
  show madeCells #[Value.bool false] (n*1)=_;rw[Nat.mul_one,jB];simp[rm]
 rw[e];rfl
def four(w:BY)(a b c d:Obj):((((w.alloc a).alloc b).alloc c).alloc d).heap[w.heap.size]?=some a/\((((w.alloc a).alloc b).alloc c).alloc d).heap[w.heap.size+1]?=some b/\((((w.alloc a).alloc b).alloc c).alloc d).heap[w.heap.size+1+1]?=some c/\((((w.alloc a).alloc b).alloc c).alloc d).heap[w.heap.size+1+1+1]?=some d:=by
 have s1:(w.alloc a).heap.size=w.heap.size+1:=lw
 have s2:((w.alloc a).alloc b).heap.size=w.heap.size+1+1:=lw
 have s3:(((w.alloc a).alloc b).alloc c).heap.size=w.heap.size+1+1+1:=lw
 have e2:=heap_alloc_new (w.alloc a) b;have e3:=heap_alloc_new ((w.alloc a).alloc b) c;have e4:=heap_alloc_new (((w.alloc a).alloc b).alloc c) d;rw[s1]at e2;rw[s2]at e3;rw[s3]at e4;exact⟨(Below.heap_alloc _ d _ ls).trans ((Below.heap_alloc _ c _ ls).trans ((Below.heap_alloc _ b _ ls).trans (heap_alloc_new w a))),(Below.heap_alloc _ d _ ls).trans ((Below.heap_alloc _ c _ ls).trans e2),(Below.heap_alloc _ d _ ls).trans e3,e4⟩
def yz(w:BY)(a b c d:Obj):i7 w ((((w.alloc a).alloc b).alloc c).alloc d).drew:=
 (((((Below.refl _ _).alloc (ai _) _).alloc lw _).alloc (by simp;omega) _).alloc (by simp;omega) _).drew
def qH(n:Nat)(hn:n<=4096):(D.zero n).Ok n:=⟨by simp[D.zero],by simp[D.zero],by simp[D.zero],hn,dG 0,dG 0⟩
def BO(n:Nat)(w:BY)(h1:1<=n)(hn:n<=4096):
  io prog 52 #[n] w λe w'=> ∃L,e=fd (rg #[dp L.b,U5 U6 0])/\aX w' L n (D.zero n)/\i7 w w'/\(∀x∈L.fp,w.heap.size<=x):=by
 have m1:=UH n hn;have m2:=Pz n hn;go_in
 go_wp2
 go_region
 all_goals go_wp2
 all_goals go_ret2
 all_goals first|exact⟨⟨_,w.heap.size,w.heap.size+1,w.heap.size+1+1⟩,rfl,⟨.of_eq (four w _ _ _ _).2.2.2,.of_eq (four w _ _ _ _).1,.of_eq (four w _ _ _ _).2.1,.of_eq (four w _ _ _ _).2.2.1,by dsimp only;omega,qH n hn⟩,yz w _ _ _ _,by simp[Loc.fp];omega⟩|exact⟨⟨_,w.heap.size,w.heap.size+1+1,w.heap.size+1⟩,rfl,⟨.of_eq (four w _ _ _ _).2.2.2,.of_eq (four w _ _ _ _).1,.of_eq (four w _ _ _ _).2.2.1,.of_eq (four w _ _ _ _).2.1,by dsimp only;omega,qH n hn⟩,yz w _ _ _ _,by simp[Loc.fp];omega⟩|exact⟨⟨_,w.heap.size+1,w.heap.size,w.heap.size+1+1⟩,rfl,⟨.of_eq (four w _ _ _ _).2.2.2,.of_eq (four w _ _ _ _).2.1,.of_eq (four w _ _ _ _).1,.of_eq (four w _ _ _ _).2.2.1,by dsimp only;omega,qH n hn⟩,yz w _ _ _ _,by simp[Loc.fp];omega⟩|exact⟨⟨_,w.heap.size+1,w.heap.size+1+1,w.heap.size⟩,rfl,⟨.of_eq (four w _ _ _ _).2.2.2,.of_eq (four w _ _ _ _).2.1,.of_eq (four w _ _ _ _).2.2.1,.of_eq (four w _ _ _ _).1,by dsimp only;omega,qH n hn⟩,yz w _ _ _ _,by simp[Loc.fp];omega⟩|exact⟨⟨_,w.heap.size+1+1,w.heap.size,w.heap.size+1⟩,rfl,⟨.of_eq (four w _ _ _ _).2.2.2,.of_eq (four w _ _ _ _).2.2.1,.of_eq (four w _ _ _ _).1,.of_eq (four w _ _ _ _).2.1,by dsimp only;omega,qH n hn⟩,yz w _ _ _ _,by simp[Loc.fp];omega⟩|exact⟨⟨_,w.heap.size+1+1,w.heap.size+1,w.heap.size⟩,rfl,⟨.of_eq (four w _ _ _ _).2.2.2,.of_eq (four w _ _ _ _).2.2.1,.of_eq (four w _ _ _ _).2.1,.of_eq (four w _ _ _ _).1,by dsimp only;omega,qH n hn⟩,yz w _ _ _ _,by simp[Loc.fp];omega⟩
variable{w w':BY}{n:Nat}{L:Loc}
structure Cr where
 A:Option Addr
 m:Nat
 c:Nat
 kp:Nat->Bool
 uO:Int
 bytes:Int
def Cr.At(C:Cr)(w:BY):Prop:= ∀i,i<C.m->∃ad,C.A=some ad/\w.cell? (ad.add i)=some (WF (C.kp i))
def Cr.val(C:Cr):By:= .agg #[U3 C.A C.m C.c,U5 U6 C.uO,U5 U6 C.bytes]
def Cr.At.below{C:Cr}(h:C.At w)(hb:i7 w w'):C.At w':=by
 intro i hi;obtain⟨ad,e,hc⟩:=h i hi;exact⟨ad,e,(hb.cell (by rw[ji];exact wK hc)).trans hc⟩
def Cr.At.only{C:Cr}{S:List Nat}(h:C.At w)(ho:ah S w w')(hap:∀ad,C.A=some ad->0<C.m->ad.block∉S):C.At w':=by
 intro i hi;obtain⟨ad,e,hc⟩:=h i hi;exact⟨ad,e,(ho.cell (by rw[ji];exact wK hc) (by rw[ji];exact hap ad e ls)).trans hc⟩
def Cr.kW(C:Cr)(j:Nat):Nat:=if(j:Int)=C.uO then(if 0<C.bytes then C.bytes.toNat % 65 else 0)else if j<C.m/\C.kp j=true then 64 else 0
def Cr.BR(C:Cr)(j:Nat):C.kW j<=64:=by unfold Cr.kW;split<;>split<;>omega
def CT{x:Nat}(C:Cr)(hC:C.At w)(_hm:C.m<=9223372036854775807)(B:aM w x 67 #[U3 C.A C.m C.c,C.uO,C.bytes])(j:Nat)(_hj:j<=4096):
  io prog 78 #[j,lc x] w λe w'=>e=fd (C.kW j:Nat)/\w=w':=by
 have c0:w.cell? (lc x)=some (U3 C.A C.m C.c):=B.ae rfl;have c1:w.cell? ⟨x,1,none⟩=some (C.uO:li):=B.ae rfl;have c2:w.cell? ⟨x,2,none⟩=some (C.bytes:li):=B.ae rfl;unfold Cr.kW
 by_cases h1:(j:Int)=C.uO
 .rw[U8 h1];rw[<-h1]at c1
  by_cases h2:0<C.bytes
  .rw[U8 h2];go_in
   go_wp2
   go_ret;refine⟨?_,rfl⟩;show Ending.returned (U5 U6 (C.bytes % 65))=_
   congr 2
   omega
  .rw[U9 h2];go_in
   go_wp2
   all_goals go_ret
   all_goals first
    |exact⟨rfl,rfl⟩
    |(refine⟨?_,rfl⟩;show Ending.returned (U5 U6 (C.bytes % 65))=_;congr 2;omega)
 .rw[U9 h1];have t1:((j:Int)==C.uO)=false:=by simpa using h1
  by_cases h2:j<C.m
  .obtain⟨ad,hA,hk⟩:=hC j h2;rw[hA]at c0
   cases hb:C.kp j
   .rw[i8];rw[hb]at hk;clear hb hA h1;go_in
    go_wp2
    go_ret;exact⟨rfl,rfl⟩
   .rw[U8 ⟨h2,rfl⟩];rw[hb]at hk;clear hb hA h1;go_in
    go_wp2
    go_ret;exact⟨rfl,rfl⟩
  .rw[U9 (by simp[h2])];clear h1;go_in
   go_wp2
   go_ret;exact⟨rfl,rfl⟩
def D.kD(C:Cr)(d:D)(j i:Nat):D:=
 {d with now:=fA d.now i ((sec d.now i).take (C.kW j)++(sec d.aR i).drop (C.kW j)),loose:=d.loose.set i false}
def D.bZ(C:Cr)(d:D):Nat->D×Nat
 |0=>(d,0)
 |i+1=>if(D.bZ C d i).1.loose.getD i false then((D.bZ C d i).1.kD C (D.bZ C d i).2 i,(D.bZ C d i).2+1)else D.bZ C d i
def D.kt(C:Cr)(d:D)(n:Nat):D:={(D.bZ C d n).1 with down:=false,aq:=0}
def D.Ok.one{d:D}(h:d.Ok n)(C:Cr)(j i:Nat)(hi:i<n):(d.kD C j i).Ok n:=by
 have e1:=ev h.now hi;have e2:=ev h.aR hi;have hk:=C.BR j;have:=h.now;exact⟨by show(fA _ _ _).length=_;unfold fA;rw[jj (by simp[e1,e2];omega)];exact h.now,h.aR,by show(d.loose.set i false).length=_;rw[bR];exact h.loose,h.small,h.aq,h.calls⟩
def D.Ok.bZ{d:D}(h:d.Ok n)(C:Cr):∀i,i<=n->(D.bZ C d i).1.Ok n/\(D.bZ C d i).2<=i
 |0,_=>⟨h,ai 0⟩
 |i+1,hi=>by
  have ih:=D.Ok.bZ h C i ls;simp only[D.bZ]
  split
  .exact⟨ih.1.one C _ i ls,by show _+1<=_;omega⟩
  .exact⟨ih.1,ls⟩
def D.Ok.GG{d:D}(h:d.Ok n)(C:Cr):(d.kt C n).Ok n:=by
 have:=(h.bZ C n (ai n)).1;exact⟨this.now,this.aR,this.loose,this.small,dG 0,this.calls⟩
def aX.GI{d:D}(h:aX w L n d)(i:Nat)(x:Bool):aX (w.setCell ⟨L.gL,i,none⟩ (WF x)) L n {d with loose:=d.loose.set i x}:=by
 have B:=h.hL.ct i (WF x);rw[tF,GB]at B;exact⟨h.hb.bh (by exact h.bL) _,h.hN.bh (by exact λe=>h.LN e.symm) _,h.hO.bh (by exact λe=>h.LO e.symm) _,B,h.ne,⟨h.ok.now,h.ok.aR,by show(d.loose.set i x).length=n;rw[bR];exact h.ok.loose,h.ok.small,h.ok.aq,h.ok.calls⟩⟩
def GJ{d:D}(h:aX w L n d)(C:Cr)(j i:Nat)(hi:i<n)(oN oO:Nat)(hk:(C.kW j<64/\oN=i*64+C.kW j/\oO=i*64+C.kW j)\/(C.kW j=64/\oN=i*64/\oO=i*64))(len:Nat)(hlen:len=64-C.kW j):
  ∃w1,(Builtin.copy_ #[150,150] 3 #[U3 (some ⟨L.gN,oN,none⟩) len len,U3 (some ⟨L.gO,oO,none⟩) len len]).run prog w=.ok (goInt len) w1/\
   aX w1 L n {d with now:=(d.kD C j i).now}/\ah [L.gN] w w1:=by
 have e1:=ev h.ok.now hi;have e2:=ev h.ok.aR hi;have hle:=C.BR j;have hN:=h.ok.now;have fN:({d with now:=(d.kD C j i).now}:D).Ok n:=⟨(h.ok.one C j i hi).now,h.ok.aR,h.ok.loose,h.ok.small,h.ok.aq,h.ok.calls⟩;have hl:(fq ((sec d.aR i).drop (C.kW j))).length=len:=by simp[e2];omega
 obtain⟨w1,ec,B,o⟩:=vu (P:=prog) h.hN 150 150 3 5 oN len len ⟨L.gO,oO,none⟩ len len (fq ((sec d.aR i).drop (C.kW j))) underlying150 m8 (by rw[hl];exact(Nat.min_self _).symm)
  (bT h.hO oO _ (by
   intro q v hv;rw[tM,iu,tT]at hv;rw[tM]
   split at hv
   .have:oO+q=64*i+(C.kW j+q):=ls
    rw[this];exact hv
   .simp at hv)) (by rw[hl,jS,hN];omega) (tN _)
 rw[hl]at ec;refine⟨w1,ec,⟨h.hb.only o (by simp;exact h.bN),?_,h.hO.only o (by simp;exact λe=>h.ne e.symm),h.hL.only o (by simp;exact h.LN),h.ne,fN⟩,o⟩;have eN:putAt (fq d.now) oN (fq ((sec d.aR i).drop (C.kW j)))=fq (d.kD C j i).now:=by
  show _=fq (fA d.now i _);rw[<-XY d.now d.aR h.ok.now h.ok.aR hi hle,tR]
  rcases hk with⟨h1,h2,_⟩|⟨h1,h2,_⟩
  .rw[h2,tL]
  .have e0:(sec d.aR i).drop (C.kW j)=[]:=lT ls;rw[e0];simp[lay]
 rw[eN]at B;exact B
end Dk
namespace Pg
open Go.RowKit Pk Dk
variable{w:BY}
def cJ(n:Nat):Nat:=(n-2) / 4
def pG{L:Dk.Loc}{n:Nat}{d:D}(h:aX w L n d):
  io prog 136 #[dp L.b] w λe w'=>e=fd (cJ n:Nat)/\w=w':=by
 have K:=xh<|Ld h;have hn:=h.ok.small;clear h;unfold dp at *;have e1:U6.wrap ((n:Int)-2)=(n:Int)-2:=d9
 by_cases h2:2<=n
 .obtain⟨m,rfl⟩:∃m,n=m+2:=⟨n-2,ls⟩;have e2:U6.wrap ((((m+2:Nat):Int)-2).tdiv 4)=((cJ (m+2):Nat):Int):=by
   have:(((m+2:Nat):Int)-2)=(m:Int):=ls
   rw[this,OP ls,d9];unfold cJ;omega
  have h3:¬((m+2:Nat):Int)-2<0:=ls
  have HM:=xh (show((cJ (m+2):Nat):Int)=(m:Int) / 4 from by unfold cJ;omega);go_in;go_wp2_with fail;go_call K.o as e w1 ⟨rfl,rfl⟩;go_wp2_with fail
  all_goals
   go_ret;refine⟨?_,rfl⟩;rw[HM.o]
   first|(simp;done)|(simp;omega)
 .have h3:(n:Int)-2<0:=ls
  have HM:=xh (show((cJ n:Nat):Int)=0 from by unfold cJ;omega);go_in;go_wp2_with fail;go_call K.o as e w1 ⟨rfl,rfl⟩;go_wp2;go_ret;refine⟨?_,rfl⟩;rw[HM.o]
  first|(simp;done)|(simp;omega)
def rW(k:Nat):List By:=[U5 U6 (k:Nat),U5 U6 ((k:Int)+1),U5 U6 ((k:Int)+2),U5 U6 ((k:Int)+3)]
def po(k i:Nat):List By:=(rW k).take i++it (4-i) (U5 U6 0)
def eE{fn:Func}{p:Tmp}{ty:us}(h:fn.results= #[.cell p ty])(tmps:Array By)(P:Program)(w:BY):
  (results fn tmps).run P w=((asAddr (tmps.getD p undef)).run P w).andThen λa w₁=>(loadVar ty a).run P w₁:=by
 simp only[results,h];simp[Sem.run_bind,Result.andThen]
def X7{fn:Func}{p:Tmp}{g:Nat}{a b c d:Int}{tmps:Array By}(h:fn.results= #[.cell p 244])(hp:tmps.getD p undef=st (some ⟨g,0,none⟩))(B:aM w g 244 #[a,b,c,d]):
  (results fn tmps).run prog w=.ok (.agg #[a,b,c,d]) w:=by
 have c0:=B.bi 0;have c1:=B.bi 1;have c2:=B.bi 2;have c3:=B.bi 3;rw[eE h,hp];clear h hp B;go_simp
def qI(id:Nat)(h:id<=1023):
  io prog 184 #[(id:Nat)] w λe w'=>e=fd (.agg (rW (2+4*id)).toArray)/\i7 w w':=by
 have e1:U6.wrap ((id:Int)*4)=(id:Int)*4:=d9;have e2:U6.wrap (2+(id:Int)*4)=2+(id:Int)*4:=d9;have Z:∀i:Nat,i<=3->U6.wrap (2+(id:Int)*4+(i:Int))=2+(id:Int)*4+(i:Int):=λi hi=>d9;have y0:=Z 0 ls;have y1:=Z 1 ls;have y2:=Z 2 ls;have y3:=Z 3 ls;clear Z;have q0:Value.int U6 (2+(id:Int)*4)=U5 U6 ((2+4*id:Nat):Int):=by congr 1;omega
 have q1:Value.int U6 (2+(id:Int)*4+1)=U5 U6 (((2+4*id:Nat):Int)+1):=by congr 1;omega
 have q2:Value.int U6 (2+(id:Int)*4+2)=U5 U6 (((2+4*id:Nat):Int)+2):=by congr 1;omega
 have q3:Value.int U6 (2+(id:Int)*4+3)=U5 U6 (((2+4*id:Nat):Int)+3):=by congr 1;omega
 have Q:=xh<|And.intro q0 (And.intro q1 (And.intro q2 q3));clear q0 q1 q2 q3;have B0:=xh<|(aM.new w 244 #[U5 U6 0,U5 U6 0,U5 U6 0,U5 U6 0]).alloc (Pi #[U5 U6 0,U5 U6 0,U5 U6 0,U5 U6 0] 244);have C0:=aM.new (w.alloc (Pi #[U5 U6 0,U5 U6 0,U5 U6 0,U5 U6 0] 244)) 244 #[U5 U6 0,U5 U6 0,U5 U6 0,U5 U6 0]
 rw[show(w.alloc (Pi #[U5 U6 0,U5 U6 0,U5 U6 0,U5 U6 0] 244)).heap.size=w.heap.size+1 from by simp]at C0;have C0:=xh C0;have O0:=xh<|ag (i6 w (Pi #[U5 U6 0,U5 U6 0,U5 U6 0,U5 U6 0] 244)) (Pi #[U5 U6 0,U5 U6 0,U5 U6 0,U5 U6 0] 244);go_in;go_wp2_with fail
 go_loopw [5] (λiv wr=> ∃i:Nat,i<=4/\iv=U5 U6 i/\Hid (aM wr (w.heap.size+1) 244 (po (2+4*id) i).toArray)/\Hid (aM wr w.heap.size 244 #[U5 U6 0,U5 U6 0,U5 U6 0,U5 U6 0])/\Hid (i7 w wr)) (λiv _=>4-(intOf iv).toNat)
 case atStart=>exact⟨0,ls,rfl,C0,B0,O0⟩
 case round=>
  obtain⟨i,hi,rfl,C,B,O⟩:=hrel;have ii:i=0\/i=1\/i=2\/i=3\/i=4:=ls
  have z0:=C.o.frozen 0 (by rcases ii with rfl|rfl|rfl|rfl|rfl<;>simp[po,rW]);have z1:=C.o.frozen 1 (by rcases ii with rfl|rfl|rfl|rfl|rfl<;>simp[po,rW]);have z2:=C.o.frozen 2 (by rcases ii with rfl|rfl|rfl|rfl|rfl<;>simp[po,rW]);have z3:=C.o.frozen 3 (by rcases ii with rfl|rfl|rfl|rfl|rfl<;>simp[po,rW])
  rcases ii with rfl|rfl|rfl|rfl|rfl
  .have c0:=C.o.ae (i:=0) (v:=U5 U6 0) rfl;have C2:=xh (show aM (wr.setCell ⟨w.heap.size+1,0,none⟩ (U5 U6 (2+(id:Int)*4))) (w.heap.size+1) 244 (po (2+4*id) 1).toArray from by
    have h:=C.o.ct 0 (U5 U6 (2+(id:Int)*4));rw[Q.o.1]at h ⊢;exact h)
   have B2:=xh<|B.o.bh (p:=⟨w.heap.size+1,0,none⟩) lw (U5 U6 (2+(id:Int)*4));have O2:=xh<|O.o.setCell (p:=⟨w.heap.size+1,0,none⟩) lw (U5 U6 (2+(id:Int)*4));go_wp2;go_roundw
   case rel=>exact⟨1,ls,by first|rfl|simp,C2,B2,O2⟩
   case measure=>first|decide|simp[intOf]
  .have c0:=C.o.ae (i:=1) (v:=U5 U6 0) rfl;have C2:=xh (show aM (wr.setCell ⟨w.heap.size+1,1,none⟩ (U5 U6 (2+(id:Int)*4+1))) (w.heap.size+1) 244 (po (2+4*id) 2).toArray from by
    have h:=C.o.ct 1 (U5 U6 (2+(id:Int)*4+1));rw[Q.o.2.1]at h ⊢;exact h)
   have B2:=xh<|B.o.bh (p:=⟨w.heap.size+1,1,none⟩) lw (U5 U6 (2+(id:Int)*4+1));have O2:=xh<|O.o.setCell (p:=⟨w.heap.size+1,1,none⟩) lw (U5 U6 (2+(id:Int)*4+1));go_wp2;go_roundw
   case rel=>exact⟨2,ls,by first|rfl|simp,C2,B2,O2⟩
   case measure=>first|decide|simp[intOf]
  .have c0:=C.o.ae (i:=2) (v:=U5 U6 0) rfl;have C2:=xh (show aM (wr.setCell ⟨w.heap.size+1,2,none⟩ (U5 U6 (2+(id:Int)*4+2))) (w.heap.size+1) 244 (po (2+4*id) 3).toArray from by
    have h:=C.o.ct 2 (U5 U6 (2+(id:Int)*4+2));rw[Q.o.2.2.1]at h ⊢;exact h)
   have B2:=xh<|B.o.bh (p:=⟨w.heap.size+1,2,none⟩) lw (U5 U6 (2+(id:Int)*4+2));have O2:=xh<|O.o.setCell (p:=⟨w.heap.size+1,2,none⟩) lw (U5 U6 (2+(id:Int)*4+2));go_wp2;go_roundw
   case rel=>exact⟨3,ls,by first|rfl|simp,C2,B2,O2⟩
   case measure=>first|decide|simp[intOf]
  .have c0:=C.o.ae (i:=3) (v:=U5 U6 0) rfl;have C2:=xh (show aM (wr.setCell ⟨w.heap.size+1,3,none⟩ (U5 U6 (2+(id:Int)*4+3))) (w.heap.size+1) 244 (po (2+4*id) 4).toArray from by
    have h:=C.o.ct 3 (U5 U6 (2+(id:Int)*4+3));rw[Q.o.2.2.2]at h ⊢;exact h)
   have B2:=xh<|B.o.bh (p:=⟨w.heap.size+1,3,none⟩) lw (U5 U6 (2+(id:Int)*4+3));have O2:=xh<|O.o.setCell (p:=⟨w.heap.size+1,3,none⟩) lw (U5 U6 (2+(id:Int)*4+3));go_wp2;go_roundw
   case rel=>exact⟨4,ls,by first|rfl|simp,C2,B2,O2⟩
   case measure=>first|decide|simp[intOf]
  .have c0:=C.ap 0;have c1:=C.ap 1;have c2:=C.ap 2;have c3:=C.ap 3;have b0:=B.ap 0;have b1:=B.ap 1;have b2:=B.ap 2;have b3:=B.ap 3;have x0:=B.o.frozen 0 lw;have x1:=B.o.frozen 1 lw;have x2:=B.o.frozen 2 lw;have x3:=B.o.frozen 3 lw
   have ZB:=xh<|(((B.o.ct 0 ((2+4*id:Nat):Int)).ct 1 (U5 U6 (((2+4*id:Nat):Int)+1))).ct 2 (U5 U6 (((2+4*id:Nat):Int)+2))).ct 3 (U5 U6 (((2+4*id:Nat):Int)+3))
   have ZO:=xh<|(((O.o.setCell (p:=⟨w.heap.size,0,none⟩) (ai _) ((2+4*id:Nat):Int)).setCell (p:=⟨w.heap.size,1,none⟩) (ai _) (U5 U6 (((2+4*id:Nat):Int)+1))).setCell (p:=⟨w.heap.size,2,none⟩) (ai _) (U5 U6 (((2+4*id:Nat):Int)+2))).setCell (p:=⟨w.heap.size,3,none⟩) (ai _) (U5 U6 (((2+4*id:Nat):Int)+3))
   simp only[po,rW,ik,I9,kM,cR,jh,CG,ai,List.getElem_cons_zero,List.getElem_cons_succ,List.getElem_toArray]at c0 c1 c2 c3;generalize hKK:((2+4*id:Nat):Int)=K at *;have Ox:=xh hKK;clear hKK;go_wp2;exact bodyPost_ret (X7 rfl rfl ZB.o) rfl ⟨by unfold rW;rw[Ox.o],ZO.o⟩
variable{d:D}{n:Nat}
def yB(d:D)(h:d.aq<=9223372036854775807):d.cG.1.calls=d.calls+1/\d.cG.1.aq<=9223372036854775807:=by
 unfold D.cG
 split
 .exact⟨rfl,h⟩
 .split
  .exact⟨rfl,by show(0:Int)<=_;omega⟩
  .exact⟨rfl,by show d.aq-1<=_;omega⟩
def Dc(d:D)(i:Nat):(d.gE i).calls=d.calls/\(d.gE i).aq=d.aq:=by unfold D.gE;split<;>exact⟨rfl,rfl⟩
def jD(d:D)(n:Nat)(i:Int)(s:UV)(h:d.aq<=9223372036854775807):(d.ao n i s).1.calls<=d.calls+1/\(d.ao n i s).1.aq<=9223372036854775807:=by
 unfold D.ao
 split
 .have h1:(d.dh i.toNat s).calls=d.calls:=(Dc d i.toNat).1;have h2:(d.dh i.toNat s).aq=d.aq:=(Dc d i.toNat).2;have:=yB (d.dh i.toNat s) ls;omega
 .exact⟨by show d.calls<=_;omega,h⟩
def w4(d:D)(n k:Nat)(b:UV):Nat->D×Int
 |0=>(d,0)
 |i+1=>if(w4 d n k b i).2=0 then(w4 d n k b i).1.ao n ((k:Int)+i) ((b.drop (64*i)).take 64)else w4 d n k b i
def X9(d:D)(n k:Nat)(b:UV)(i:Nat)(h:(w4 d n k b i).2=0):w4 d n k b (i+1)=(w4 d n k b i).1.ao n ((k:Int)+i) ((b.drop (64*i)).take 64):=by
 show(if _ then _ else _)=_;rw[U8 h]
def SR(d:D)(n k:Nat)(b:UV)(i j:Nat)(h:(w4 d n k b i).2≠0)(hj:i<=j):w4 d n k b j=w4 d n k b i:=by
 induction j with
 |zero=>rw[show i=0 by omega]
 |succ j ih=>
  by_cases e:i=j+1
  .rw[e]
  .have:=ih ls;show(if _ then _ else _)=_;rw[this,U9 h]
def Ya(d:D)(n k:Nat)(b:UV)(h:d.aq<=9223372036854775807):∀i,(w4 d n k b i).1.calls<=d.calls+i/\(w4 d n k b i).1.aq<=9223372036854775807
 |0=>⟨by simp[w4],h⟩
 |i+1=>by
  obtain⟨h1,h2⟩:=Ya d n k b h i;unfold w4
  split
  .have:=jD (w4 d n k b i).1 n ((k:Int)+i) ((b.drop (64*i)).take 64) h2;omega
  .omega
def Dd(h:d.Ok n)(k:Nat)(b:UV):∀i,(w4 d n k b i).1.Ok n
 |0=>h
 |i+1=>by
  unfold w4
  split
  .exact(Dd h k b i).write _ _
  .exact Dd h k b i
def bq(d:D)(n:Nat)(id ep kd:Int)(s:UV):D×Int:=
 if(dh id ep kd s).2≠0 then(d,(dh id ep kd s).2)
 else if(cJ n:Int)<=id then(d,3)
 else w4 d n (2+4*id.toNat) (dh id ep kd s).1 4
def nC(d:D)(n:Nat)(id ep kd:Int)(s:UV)(h:d.aq<=9223372036854775807):(bq d n id ep kd s).1.calls<=d.calls+4/\(bq d n id ep kd s).1.aq<=9223372036854775807:=by
 unfold bq
 split
 .exact⟨by show d.calls<=_;omega,h⟩
 .split
  .exact⟨by show d.calls<=_;omega,h⟩
  .exact Ya d n _ _ h 4
def Df{id ep kd:Int}{s:UV}(h:(dh id ep kd s).2=0):(dh id ep kd s).1.length=256/\Ow id ep kd=true:=by
 unfold dh at h ⊢
 split at h
 .rename_i fN;rw[U8 fN]
  split at h
  .simp at h
  .rename_i hs;rw[U9 hs];have h1:(ff (mD id ep kd s) 252).length=252:=by
    have:(mD id ep kd s).length=20+s.length:=by unfold mD;simp[gW,qG];omega
    unfold ff;rw[bC,eG];omega
   refine⟨?_,fN⟩;show(lP id ep kd s).length=256;unfold lP ky.bM;rw[bC,h1];simp[ky.iU]
 .simp at h
def GK{w:BY}{L:Dk.Loc}(h:aX w L n d)(id ep kd:Int)(s:Nm)(hid:id<=9223372036854775807)(he:(dh id ep kd s.data.toList).2≠0\/(cJ n:Int)<=id):
  io prog 225 #[dp L.b,jw id ep kd s] w λe w'=>e=fd (U5 U6 (bq d n id ep kd s.data.toList).2)/\aX w' L n (bq d n id ep kd s.data.toList).1/\i7 w w':=by
 have O0:=xh<|i6 w (Pi #[id,ep,kd,U7 s] 162);have B0:=xh<|aM.new w 162 #[id,ep,kd,U7 s];have K:=xh (λw=>La (w:=w) id ep kd s hid);have KM:=xh (λw' (hb:i7 w w')=>pG (h.below hb));have HD:=xh h;have c0:=B0.ap 0;have c1:=B0.ap 1;have c2:=B0.ap 2
 have c3:=B0.ap 3;have GM:((dh id ep kd s.pu).2≠0/\bq d n id ep kd s.pu=(d,(dh id ep kd s.pu).2))\/((dh id ep kd s.pu).2=0/\(cJ n:Int)<=id/\bq d n id ep kd s.pu=(d,3)):=by
  by_cases h1:(dh id ep kd s.pu).2=0
  .have h2:=he.resolve_left (λh=>h h1);right;refine⟨h1,h2,?_⟩;unfold bq;rw[U9 (by simpa using h1),U8 h2]
  .left;refine⟨h1,?_⟩;unfold bq;rw[U8 h1]
 generalize (dh id ep kd s.pu).2=er at *;generalize (⟨(dh id ep kd s.pu).1.toArray⟩:Nm)=S at *;generalize bq d n id ep kd s.pu=R at *;generalize cJ n=mn at *;clear h he;unfold jw dp at *
 rcases GM with⟨h1,h2⟩|⟨h1,h3,h2⟩
 .subst h2;have hb:(er != 0)=true:=lm h1
  go_in;go_wp2_with fail;go_call (K.o _) as e w1 ⟨rfl,bu⟩;have O1:=xh<|aE O0.o bu;clear bu;go_wp2;go_ret;exact⟨rfl,HD.o.below O1.o,O1.o⟩
 .subst h2;subst h1;go_in;go_wp2_with fail;go_call (K.o _) as e w1 ⟨rfl,bu⟩;have O1:=xh<|aE O0.o bu;have B1:=xh<|B0.o.below bu B0.o.lt;clear bu c0 c1 c2 c3;have c0:=B1.ap 0;go_wp2_with fail;have KX:=xh (λm=>KM.o (w1.drewN m) (dC O1.o m));go_quiet ((go_at_call 136;exact CQ (KX.o _)));go_wp2;go_ret;exact⟨rfl,HD.o.below (dC O1.o _),dC O1.o _⟩
variable{w:BY}{L:Dk.Loc}{n:Nat}{d:D}
def idx4(a0 a1 a2 a3:Int)(w:BY)(k:Nat)(x:By)(hx: #[Value.int U6 a0,a1,a2,a3][k]?=some x):
  (Instr.index 244 (.agg #[a0,a1,a2,a3]) (k:Int)).run prog w=.ok x w:=by
 have hu:prog.underlying 244=some (.array 4 3):=pm
 have hm:(prog.info? 3).map (·.size)=some 1:=pm
 have hp:prog.plainKey 3=true:=pm
 have hk:k<4:=by
  rcases fo k 4 with h|h
  .exact h
  .rw[Xr (by simpa using h)]at hx;cases hx
 cases hq:prog.info? 3 with
 |none=>simp[hq]at hm
 |some i=>
  simp only[hq,mr,Option.some.injEq]at hm;have:=run_part_plain (P:=prog) w hp hx;simp[Instr.index,asIntOf,run_underlying hu,hk,sizeOf,typeInfo,hq,hm];exact this
def PD(h:aX w L n d)(id:Nat)(ep kd:Int)(s:Nm)(hp:(dh id ep kd s.data.toList).2=0)(hm:id<cJ n)(hc:d.calls<=3999999999999999990)(hr:d.aq<=9223372036854775807):
  io prog 225 #[dp L.b,jw id ep kd s] w λe w'=>e=fd (U5 U6 (w4 d n (2+4*id) (dh id ep kd s.data.toList).1 4).2)/\aX w' L n (w4 d n (2+4*id) (dh id ep kd s.data.toList).1 4).1/\ah L.fp w w':=by
 have hn:=h.ok.small;have hmn:cJ n<=1023:=by unfold cJ;omega
 have O0:=xh<|i6 w (Pi #[U5 U6 (id:Nat),U5 U6 ep,U5 U6 kd,U7 s] 162);have B0:=xh<|aM.new w 162 #[U5 U6 (id:Nat),U5 U6 ep,U5 U6 kd,U7 s];have K:=λw=>La (w:=w) id ep kd s ls;have hlen:=(Df hp).1;rw[hp]at K;obtain⟨T,hT⟩:∃T:Nm,(⟨(dh id ep kd s.pu).1.toArray⟩:Nm)=T:=⟨_,rfl⟩;rw[hT]at K;have BH:T.pu=(dh id ep kd s.pu).1:=by rw[<-hT]
 have hTs:T.size=256:=by rw[<-hT,mE,hlen]
 rw[<-BH];have HX:=g9 (∀i:Nat,(T.extract (64*i) (64*(i+1))).data.toList=(T.pu.drop (64*i)).take 64) (λi=>by rw[Xd,show 64*(i+1)-64*i=64 by omega]);have K:=xh K;have KM:=xh (λw' (hb:i7 w w')=>pG (h.below hb));have KS:=xh (λw=>qI (w:=w) id ls);have HB:=xh<|Ya d n (2+4*id) T.pu hr;have H4:=xh<|X9 d n (2+4*id) T.pu;have HS:=xh<|SR d n (2+4*id) T.pu
 have HC:=xh hc;have HD:=xh h;have hmI:¬((cJ n:Nat):Int)<=(id:Int):=ls
 have c0:=B0.ap 0;have c1:=B0.ap 1;have c2:=B0.ap 2;have c3:=B0.ap 3;generalize cJ n=mn at *;clear h hp hT BH hlen hc hr;unfold jw dp rW at *;generalize hk:2+4*id=k at *;clear hk;go_in;go_wp2_with fail;go_call (K.o _) as e w1 ⟨rfl,bu⟩;have O1:=xh<|aE O0.o bu;have B1:=xh<|B0.o.below bu B0.o.lt;clear bu c0 c1 c2 c3 K
 have c0:=B1.ap 0;have KX:=xh (λm=>KM.o (w1.drewN m) (dC O1.o m));go_wp2_with fail;go_quiet ((go_at_call 136;exact CQ (KX.o _)));have O2:=xh<|dC O1.o nq;have B2:=xh<|B1.o.drewN nq;generalize FU:w1.drewN nq=w2 at *;clear c0 O1 B1 FU KX KM;have c0:=B2.ap 0;go_wp2_with fail;go_call (KS.o _) as e w3 ⟨rfl,gK⟩;have O3:=xh<|aE O2.o gK;have D3:=xh<|HD.o.below O3.o
 clear gK c0 KS O2 B2;go_wp2_with fail
 go_loopw [30] (λiv wr=> ∃i:Nat,i<=4/\iv=U5 U6 i/\Hid (aX wr L n (w4 d n k T.pu i).1)/\Hid ((w4 d n k T.pu i).2=0)/\Hid (ah L.fp w wr)) (λiv _=>4-(intOf iv).toNat)
 case atStart=>exact⟨0,ls,rfl,D3,xh rfl,xh (.aj O3.o)⟩
 case round=>
  obtain⟨i,hi,rfl,DD,EZ,O⟩:=hrel
  rcases(show i<4\/i=4 by omega)with hi4|rfl
  .have KW:=tV DD.o ((k:Int)+i) (T.extract (64*i) (64*(i+1))) (by have:=HC.o;have:=HB.o i;omega) (by have:=HB.o i;omega);have hx:(T.extract (64*i) (64*(i+1))).data.toList=(T.pu.drop (64*i)).take 64:=by
    have:=HX.o i;rw[<-this]
   rw[hx,<-H4.o i EZ.o]at KW;have KW:=xh KW;have IX:=xh<|idx4 (k:Int) ((k:Int)+1) ((k:Int)+2) ((k:Int)+3) wr i (U5 U6 ((k:Int)+i)) (by rcases(show i=0\/i=1\/i=2\/i=3 by omega)with rfl|rfl|rfl|rfl<;>simp);have Xc:(i:Int)<4:=ls
   have m1:U6.wrap ((i:Int)*64)=((64*i:Nat):Int):=by rw[show(i:Int)*64=((64*i:Nat):Int) by omega];exact d9
   have m2:U6.wrap ((i:Int)+1)=(i:Int)+1:=d9;have m3:U6.wrap (((i:Int)+1)*64)=((64*(i+1):Nat):Int):=by rw[show((i:Int)+1)*64=((64*(i+1):Nat):Int) by omega];exact d9
   clear hx;go_wp2_with fail;rw[IX.o];go_wp2_with fail;go_call KW.o as e wz ⟨rfl,dd,oz⟩;have DZ:=xh dd;have OZ:=xh<|O.o.trans oz;clear dd oz KW
   by_cases hz:(w4 d n k T.pu (i+1)).2=0
   .have HZ:=xh hz;have hq:((w4 d n k T.pu (i+1)).2 != 0)=false:=by rw[hz];rfl
    clear hz;go_wp2;go_roundw
    case rel=>exact⟨i+1,ls,by first|rfl|go_num,DZ,HZ,OZ⟩
    case measure=>simp[intOf];omega
   .have hs:=HS.o (i+1) 4 hz ls;have HSS:=xh hs;have hq:((w4 d n k T.pu (i+1)).2 != 0)=true:=lm hz
    clear hz hs;go_wp2;go_ret;exact⟨by first|rfl|(rw[HSS.o];rfl),by first|exact DZ.o|(rw[HSS.o];exact DZ.o),OZ.o⟩
  .go_wp2;go_ret;exact⟨by rw[EZ.o];rfl,DD.o,O.o⟩
def PE(h:aX w L n d)(id ep kd:Int)(s:Nm)(hid:id<=9223372036854775807)(hc:d.calls<=3999999999999999990)(hr:d.aq<=9223372036854775807):
  io prog 225 #[dp L.b,jw id ep kd s] w λe w'=>e=fd (U5 U6 (bq d n id ep kd s.data.toList).2)/\aX w' L n (bq d n id ep kd s.data.toList).1/\ah L.fp w w':=by
 by_cases hp:(dh id ep kd s.pu).2=0
 .by_cases hm:(cJ n:Int)<=id
  .exact(GK h id ep kd s hid (.inr hm)).mono λe w' hx=>⟨hx.1,hx.2.1,.aj hx.2.2⟩
  .have fN:=(qE id ep kd).1 (Df hp).2;obtain⟨a,rfl⟩:=fu fN.1;have e1:bq d n a ep kd s.pu=w4 d n (2+4*a) (dh a ep kd s.pu).1 4:=by
    unfold bq;rw[U9 (by simpa using hp),U9 hm];rfl
   rw[e1];exact PD h a ep kd s hp ls hc hr
 .exact(GK h id ep kd s hid (.inl hp)).mono λe w' hx=>⟨hx.1,hx.2.1,.aj hx.2.2⟩
attribute [local go_sem ↓] tP
variable{w:BY}{L:Dk.Loc}{n:Nat}{d:D}
def aV(d:D)(n:Nat)(id:Int):PG×Int:=
 if id<0\/(cJ n:Int)<=id then(.zero,3)
 else if d.down=true then(.zero,13)
 else if(jx ((d.now.drop (64*(2+4*id.toNat))).take 256)).2≠0 then(.zero,(jx ((d.now.drop (64*(2+4*id.toNat))).take 256)).2)
 else if(jx ((d.now.drop (64*(2+4*id.toNat))).take 256)).1.id≠id then(.zero,14)
 else((jx ((d.now.drop (64*(2+4*id.toNat))).take 256)).1,0)
def rX(F:UV)(k i:Nat):(F.drop (64*k)).take (64*(i+1))=(F.drop (64*k)).take (64*i)++sec F (k+i):=by
 unfold sec;rw[show 64*(i+1)=64*i+64 by omega,List.take_add,jF,show 64*k+64*i=64*(k+i) by omega]
def tW(d:D)(n:Nat)(k:Nat)(h:k<n):d.jb n k=if d.down=true then 13 else 0:=by
 unfold D.jb;rw[U8 (show 0<=(k:Int)/\(k:Int)<n by omega)]
def PF(d:D)(n:Nat)(k:Nat)(h:k<n)(hd:d.down=true):d.aO n k=([],13):=by
 unfold D.aO;rw[tW d n k h,U8 hd];rfl
def Dg(d:D)(n:Nat)(k:Nat)(h:k<n)(hd:d.down=false):d.aO n k=(sec d.now k,0):=by
 unfold D.aO;rw[tW d n k h];simp[hd]
def UI(b:Nat)(id:Int)(h:id<0):
  io prog 139 #[dp b,id] w λe w'=>e=fd (rg #[PG.zero.val,U5 U6 3])/\i7 w w':=by
 have B0:=xh<|aM.new w 162 lE;have O0:=xh<|i6 w (Pi lE 162);unfold dp;go_in;go_wp2;exact bodyPost_ret (eO rfl rfl B0.o) rfl ⟨rfl,O0.o⟩
def UJ(hd:aX w L n d)(id:Int)(h0:0<=id)(h:(cJ n:Int)<=id):
  io prog 139 #[dp L.b,id] w λe w'=>e=fd (rg #[PG.zero.val,U5 U6 3])/\i7 w w':=by
 have B0:=xh<|aM.new w 162 lE;have O0:=i6 w (Pi lE 162);have K:=xh<|pG (hd.below O0);have O0:=xh O0;have h1:¬id<0:=ls
 clear hd;have z0:=B0.o.frozen 0 lw;have z1:=B0.o.frozen 1 lw;have z2:=B0.o.frozen 2 lw;have z3:=B0.o.frozen 3 lw;have c0:=B0.ap 0;have c1:=B0.ap 1;have c2:=B0.ap 2;have c3:=B0.ap 3;have ZB:=xh<|lU B0.o rfl 0 0 0 ⟨#[]⟩;have ZO:=xh<|iE O0.o (ai _) 0 0 0 ⟨#[]⟩;unfold dp at *;go_in;go_wp2_with fail
 go_call K.o as e w1 ⟨rfl,rfl⟩;go_wp2;exact bodyPost_ret (eO rfl rfl B0.o) rfl ⟨rfl,O0.o⟩
def PH(hd:aX w L n d)(id:Nat)(h:id<cJ n)(hdn:d.down=true):
  io prog 139 #[dp L.b,(id:Nat)] w λe w'=>e=fd (rg #[PG.zero.val,U5 U6 13])/\i7 w w':=by
 have hn:=hd.ok.small;have hmn:cJ n<=1023:=by unfold cJ;omega
 have Gf:2+4*id<n:=by unfold cJ at h;omega
 have B0:=xh<|aM.new w 162 lE;have O0:=i6 w (Pi lE 162);have K:=xh<|pG (hd.below O0);have O0:=xh O0;have KS:=xh (λw=>qI (w:=w) id ls);have KR:=λw' (hb:i7 w w')=>mG (hd.below hb) ((2+4*id:Nat):Int);rw[PF d n _ Gf hdn]at KR;have KR:=xh KR;have h1:¬((id:Nat):Int)<0:=ls
 have h2:¬((cJ n:Nat):Int)<=(id:Int):=ls
 clear hd;generalize cJ n=mn at *;generalize 2+4*id=k at *;unfold dp rW at *;go_in;go_wp2_with fail;go_call K.o as e w1 ⟨rfl,rfl⟩;go_wp2_with fail;go_call (KS.o _) as e w2 ⟨rfl,da⟩;have O2:=xh<|aE O0.o da;have B2:=xh<|B0.o.below da B0.o.lt;clear da;have z0:=B2.o.frozen 0 lw;have z1:=B2.o.frozen 1 lw;have z2:=B2.o.frozen 2 lw;have z3:=B2.o.frozen 3 lw
 have c0:=B2.ap 0;have c1:=B2.ap 1;have c2:=B2.ap 2;have c3:=B2.ap 3;have ZB:=xh<|lU B2.o rfl 0 0 0 ⟨#[]⟩;have ZO:=xh<|iE O2.o (ai _) 0 0 0 ⟨#[]⟩
 have IX:=xh (show(Instr.index 244 (.agg #[(k:Int),U5 U6 ((k:Int)+1),U5 U6 ((k:Int)+2),U5 U6 ((k:Int)+3)]) (U5 U6 0)).run prog w2=.ok (k:Int) w2 from idx4 (k:Int) ((k:Int)+1) ((k:Int)+2) ((k:Int)+3) w2 0 _ rfl);go_wp2_with fail
 go_loopw [6,29] (λbv iv wr=>bv=U3 none 0 0/\iv=U5 U6 0/\wr=w2) (λ_ _ _=>0)
 case atStart=>exact⟨rfl,rfl,rfl⟩
 case round=>
  obtain⟨rfl,rfl,rfl⟩:=hrel;go_wp2_with fail;rw[IX.o];go_wp2_with fail;go_call (KR.o _ O2.o) as e w3 ⟨rfl,rfl⟩;go_wp2;exact bodyPost_ret (eO rfl rfl ZB.o) rfl ⟨rfl,ZO.o⟩
def Yb(hd:aX w L n d)(id:Nat)(h:id<cJ n)(hdn:d.down=false):
  io prog 139 #[dp L.b,(id:Nat)] w λe w'=>e=fd (rg #[(aV d n id).1.val,U5 U6 (aV d n id).2])/\i7 w w':=by
 have hn:=hd.ok.small;have hnow:=hd.ok.now;have hmn:cJ n<=1023:=by unfold cJ;omega
 have Gf:2+4*id+3<n:=by unfold cJ at h;omega
 have B0:=xh<|aM.new w 162 lE;have O0:=i6 w (Pi lE 162);have K:=xh<|pG (hd.below O0);have O0:=xh O0;have KS:=xh (λw=>qI (w:=w) id ls);have KR:=λi (hi:i<=3) w' (hb:i7 w w')=>by
  have h:=mG (hd.below hb) ((2+4*id+i:Nat):Int);rw[Dg d n _ ls hdn]at h;exact h
 have KR:=xh KR;obtain⟨l,hl⟩:∃l,(d.now.drop (64*(2+4*id))).take 256=l:=⟨_,rfl⟩;have hres:aV d n id=if(jx l).2≠0 then(.zero,(jx l).2)else if(jx l).1.id≠(id:Int)then(.zero,14)else((jx l).1,0):=by
  unfold aV;rw[ge,U9 (by simp[hdn]),show((id:Nat):Int).toNat=id from by omega,hl]
 generalize aV d n id=R at *;have HR:=xh hres;have UK:=xh (show((d.now.drop (64*(2+4*id))).take 256).length=256 from by rw[bY,ef];omega);have HNX:=xh<|rX d.now (2+4*id);have HL:=xh hl;have KG:=xh (λw=>XX (w:=w) ⟨l.toArray⟩);have Bc:=g9 (∀i,i<=4->((d.now.drop (64*(2+4*id))).take (64*i)).length=64*i) (λi hi=>by rw[bY,ef];omega)
 have HSZ:=g9 (∀i,i<=3->(sec d.now (2+4*id+i)).length=64) (λi hi=>ev hnow ls);have h1:¬((id:Nat):Int)<0:=ls
 have h2:¬((cJ n:Nat):Int)<=(id:Int):=ls
 clear hd hl hres hnow;generalize cJ n=mn at *;generalize 2+4*id=k at *;unfold dp rW at *;go_in;go_wp2_with fail;go_call K.o as e w1 ⟨rfl,rfl⟩;go_wp2_with fail;go_call (KS.o _) as e w2 ⟨rfl,da⟩;have O2:=xh<|aE O0.o da;have B2:=xh<|B0.o.below da B0.o.lt;have y2:=B2.o.lt;clear da B0 O0 K KS;go_wp2_with fail
 go_loopw [6,29] (λbv iv wr=> ∃i:Nat,i<=4/\iv=U5 U6 i/\bm wr 5 1 bv (64*i) (fq ((d.now.drop (64*k)).take (64*i)))/\Hid (i7 w wr)/\Hid (i7 w2 wr)/\Hid (∀g∈ak bv,w2.heap.size<=g)) (λ_ iv _=>4-(intOf iv).toNat)
 case atStart=>exact⟨0,ls,rfl,by rw[wJ,jK];exact bm.nil _ _ _,O2,xh (Below.refl _ _),xh (by simp[ak])⟩
 case round=>
  obtain⟨i,hi,rfl,S,O,OB,F⟩:=hrel
  rcases(show i<4\/i=4 by omega)with h4|rfl
  .have hr:=KR.o i ls _ O.o;have KR1:=xh hr;obtain⟨V1,Pw,rfl⟩:=aI S;obtain⟨U,hU⟩:∃U:Nm,(⟨(sec d.now (k+i)).toArray⟩:Nm)=U:=⟨_,rfl⟩;rw[hU]at KR1;have hUl:U.pu=sec d.now (k+i):=by rw[<-hU]
   have hUs:U.size=64:=by rw[<-hU,mE];exact HSZ.o i ls
   obtain⟨v2,w4,ea,S2,ow,fr⟩:=vy (P:=prog) S 150 9 150 underlying150 underlying9 ky.kI U (by rw[hUs];omega);obtain⟨V2,nc,rfl⟩:=aI S2;have hn:=HNX.o i;rw[<-hUl]at hn;rw[hUs,show 64*i+64=64*(i+1) by omega]at ea S2 fr;rw[<-jT,<-hn]at S2;have EA:=g9 (CU prog 150 9 150 wr (U3 V1 (64*i) Pw) (U7 U)= .ok (U3 V2 (64*(i+1)) nc) w4) ea;have SX:=xh S2
   have OX:=xh<|O.o.trans (ow.bI O.o.size (λg hg=>aD O2.o.size (F.o g hg)));have OBX:=xh<|OB.o.trans (ow.bI OB.o.size F.o);have FX:=g9 (∀g∈ak (U3 V2 (64*(i+1)) nc),w2.heap.size<=g) (λg hg=>(fr g hg).elim (F.o g) (λh=>aD OB.o.size h))
   have IX:=xh<|idx4 (k:Int) ((k:Int)+1) ((k:Int)+2) ((k:Int)+3) wr i ((k+i:Nat):Int) (by rcases(show i=0\/i=1\/i=2\/i=3 by omega)with rfl|rfl|rfl|rfl<;>rfl);have hi4:(i:Int)<4:=ls
   clear hr ea S2 ow fr S hU hUl hn;go_wp2_with fail;rw[IX.o];go_wp2_with fail;go_call KR1.o as e wz ⟨rfl,rfl⟩;go_wp2_with fail;rw[EA.o];go_wp2;go_roundw
   case rel=>exact⟨i+1,ls,by first|rfl|go_num,SX.o,OX,OBX,FX⟩
   case measure=>simp[intOf];omega
  .have ST:=xh<|SC (P:=prog) S 150 9 underlying150 underlying5 underlying9;rw[show 64*4=256 from rfl,HL.o]at ST;obtain⟨VA,vc,rfl⟩:=aI S;have B3:=xh<|B2.o.below OB.o y2;clear S;go_wp2_with fail;rw[ST.o];go_wp2_with fail;go_call (KG.o _) as e w5 ⟨rfl,oQ⟩;obtain⟨P,hP⟩:∃P,(jx l).1=P:=⟨_,rfl⟩;obtain⟨er,nh⟩:∃er,(jx l).2=er:=⟨_,rfl⟩;have GP:=xh<|And.intro hP nh;rw[hP,nh];clear hP nh;obtain⟨pid,pep,pkd,ps⟩:=P
   have O6:=xh<|ag (aE O.o oQ) (Pi #[pid,pep,pkd,U7 ⟨ps.toArray⟩] 162);have B6:=xh<|(B3.o.below oQ B3.o.lt).alloc (Pi #[pid,pep,pkd,U7 ⟨ps.toArray⟩] 162);have P6:=xh<|aM.new w5 162 #[pid,pep,pkd,U7 ⟨ps.toArray⟩];clear oQ B3;unfold PG.val jw;dsimp only;have z0:=B6.o.frozen 0 lw;have z1:=B6.o.frozen 1 lw
   have z2:=B6.o.frozen 2 lw;have z3:=B6.o.frozen 3 lw;have c0:=B6.ap 0;have c1:=B6.ap 1;have c2:=B6.ap 2;have c3:=B6.ap 3;have p0:=P6.ap 0;have p1:=P6.ap 1;have p2:=P6.ap 2;have p3:=P6.ap 3;have ZB:=xh<|lU B6.o rfl 0 0 0 ⟨#[]⟩;have ZO:=xh<|iE O6.o (ai _) 0 0 0 ⟨#[]⟩
   have YB:=xh<|lU B6.o rfl pid pep pkd ⟨ps.toArray⟩;have YO:=xh<|iE O6.o (ai _) pid pep pkd ⟨ps.toArray⟩
   by_cases nh:er=0
   .subst nh
    by_cases hpi:pid=id
    .have hq:(pid != (id:Int))=false:=by rw[bne_eq_false_iff_eq];exact hpi
     have RES:=xh (show(if(jx l).2≠0 then(PG.zero,(jx l).2)else if(jx l).1.id≠(id:Int)then(PG.zero,14)else((jx l).1,0))=(⟨pid,pep,pkd,ps⟩,0)from by
      rw[GP.o.1,GP.o.2];simp[hpi])
     clear hpi;go_wp2;exact bodyPost_ret (eO rfl rfl YB.o) rfl ⟨by rw[HR.o.trans RES.o];rfl,YO.o⟩
    .have hq:(pid != (id:Int))=true:=lm hpi
     have RES:=xh (show(if(jx l).2≠0 then(PG.zero,(jx l).2)else if(jx l).1.id≠(id:Int)then(PG.zero,14)else((jx l).1,0))=(PG.zero,14)from by
      rw[GP.o.1,GP.o.2];simp[hpi])
     clear hpi;go_wp2;exact bodyPost_ret (eO rfl rfl ZB.o) rfl ⟨by rw[HR.o.trans RES.o];rfl,ZO.o⟩
   .have hq:(er != 0)=true:=lm nh
    have RES:=xh (show(if(jx l).2≠0 then(PG.zero,(jx l).2)else if(jx l).1.id≠(id:Int)then(PG.zero,14)else((jx l).1,0))=(PG.zero,er)from by
     rw[GP.o.1,GP.o.2,U8 nh])
    clear nh;go_wp2;exact bodyPost_ret (eO rfl rfl ZB.o) rfl ⟨by rw[HR.o.trans RES.o];rfl,ZO.o⟩
def GN(hd:aX w L n d)(id:Int):
  io prog 139 #[dp L.b,id] w λe w'=>e=fd (rg #[(aV d n id).1.val,U5 U6 (aV d n id).2])/\i7 w w':=by
 by_cases h0:id<0
 .have:aV d n id=(.zero,3):=by unfold aV;rw[U8 (.inl h0)]
  rw[this];exact UI L.b id h0
 .by_cases h1:(cJ n:Int)<=id
  .have:aV d n id=(.zero,3):=by unfold aV;rw[U8 (.inr h1)]
   rw[this];exact UJ hd id ls h1
  .obtain⟨a,rfl⟩:=fu (show 0<=id by omega)
   cases hdn:d.down
   .exact Yb hd a ls hdn
   .have:aV d n a=(.zero,13):=by unfold aV;rw[ge,U8 hdn]
    rw[this];exact PH hd a ls hdn
end Pg
namespace Pg
open Go.RowKit Pk Dk
variable{d:D}{n k:Nat}
def Jk(N:Nat)(h:N<18446744073709551616):qD (yw N)=N:=by
 have e:yw N=[wf (N / 72057594037927936),wf (N / 281474976710656),wf (N / 1099511627776),wf (N / 4294967296),wf (N / 16777216),wf (N / 65536),wf (N / 256),wf (N / 1)]:=rfl;rw[e];simp only[qD,CD,Ph,j5];omega
def GO(n:Int)(h0:0<=n)(h1:n<=9223372036854775807):(qD (fM n):Int)-9223372036854775808=n:=by
 unfold fM;rw[Jk _ ls];omega
def beN_kd(N:Nat)(h:N<=2147483647):qD ((yw N).drop 4)=N:=by
 rw[XV];simp only[qD,CD,Ph,j5];omega
def wR{α}(a b:List α)(n:Nat)(h:a.length=n):(a++b).take n=a:=by rw[lz ls,cR ls]
def wS{α}(a b:List α)(n:Nat)(h:a.length=n):(a++b).drop n=b:=by rw[<-h];exact vj
def GQ(id ep kd:Int)(s:UV)(h:s.length<=232):ff (mD id ep kd s) 252=fM id++(fM ep++((yw kd.toNat).drop 4++ff s 232)):=by
 rw[<-XW id ep kd s h];simp only[cV]
def UL{id ep kd:Int}{s:UV}(fN:Ow id ep kd=true)(hid:id<=9223372036854775807)(hs:s.length<=232):
  jx (lP id ep kd s)=(⟨id,ep,kd,ff s 232⟩,0):=by
 have hb:=(qE id ep kd).1 fN;have tQ:(ff (mD id ep kd s) 252).length=252:=by
  have:(mD id ep kd s).length=20+s.length:=by unfold mD;simp[gW,qG];omega
  unfold ff;rw[bC,eG];omega
 have hd4:(lP id ep kd s).drop 4=ff (mD id ep kd s) 252:=wS _ _ 4 rfl;have ht4:(lP id ep kd s).take 4=ky.iU (ky.lD (ff (mD id ep kd s) 252)):=wR _ _ 4 rfl;have hlen:(lP id ep kd s).length=256:=by
  unfold lP ky.bM;rw[bC,tQ];rfl
 have f4:((yw kd.toNat).drop 4).length=4:=by rw[ef,qG]
 have e1:(lP id ep kd s).drop 12=fM ep++((yw kd.toNat).drop 4++ff s 232):=by
  rw[show 12=4+8 from rfl,<-jF,hd4,GQ _ _ _ _ hs];exact wS _ _ 8 (gW _)
 have e2:(lP id ep kd s).drop 20=(yw kd.toNat).drop 4++ff s 232:=by
  rw[show 20=12+8 from rfl,<-jF,e1];exact wS _ _ 8 (gW _)
 have e3:(lP id ep kd s).drop 24=ff s 232:=by
  rw[show 24=20+4 from rfl,<-jF,e2];exact wS _ _ 4 f4
 have hdec:lN (lP id ep kd s)=⟨id,ep,kd,ff s 232⟩:=by
  unfold lN;rw[e1,e2,e3,hd4,GQ _ _ _ _ hs,wR _ _ 8 (gW _),wR _ _ 8 (gW _),wR _ _ 4 f4,GO id hb.1 hid,GO ep hb.2.1 ls,beN_kd _ ls]
  congr 1
  omega
 unfold jx;rw[U9 (by rw[hlen];simp),hd4,ht4,i8,hdec];simp only[fN,if_true]
def GR(d:D):d.cG.1.now=d.now:=by
 unfold D.cG
 split
 .rfl
 .split<;>rfl
def oR(d:D)(h:d.aq=0):d.cG.2=0/\d.cG.1.aq=0/\d.cG.1.down=d.down:=by
 unfold D.cG;rw[U8 h];exact⟨rfl,h,rfl⟩
def lV(d:D)(i:Nat):(d.gE i).aq=d.aq/\(d.gE i).down=d.down:=by unfold D.gE;split<;>exact⟨rfl,rfl⟩
def jk(hd:d.down=false)(ha:d.aq=0)(hk:k<n)(s:UV):(d.ao n k s).2=0/\(d.ao n k s).1.down=false/\(d.ao n k s).1.aq=0:=by
 have h0:d.jb n k=0:=by rw[tW d n k hk];simp[hd]
 unfold D.ao;rw[U8 h0];have h1:(d.dh (k:Int).toNat s).aq=0:=((lV d _).1).trans ha;have h2:(d.dh (k:Int).toNat s).down=false:=((lV d _).2).trans hd;obtain⟨c1,c2,c3⟩:=oR _ h1;exact⟨c1,c3.trans h2,c2⟩
def SU{d:D}{n k:Nat}(b:UV)(hd:d.down=false)(ha:d.aq=0):∀i,k+i<=n->(w4 d n k b i).2=0/\(w4 d n k b i).1.down=false/\(w4 d n k b i).1.aq=0
 |0,_=>⟨rfl,hd,ha⟩
 |i+1,hi=>by
  obtain⟨h1,h2,h3⟩:=SU (n:=n) (k:=k) b hd ha i ls;rw[X9 d n k b i h1,show(k:Int)+(i:Int)=((k+i:Nat):Int) by omega];exact jk h2 h3 ls _
def yC(c:UV)(h:c.length=64):kz c=c:=by
 unfold kz;rw[h,ik,I9,kM,cR ls]
def pH(fN:d.Ok n)(k:Nat)(hk:k<n)(s:UV)(he:(d.ao n k s).2=0)(j:Nat)(hj:j<n):sec (d.ao n k s).1.now j=if k=j then kz s else sec d.now j:=by
 unfold D.ao at he ⊢
 by_cases h0:d.jb n k=0
 .rw[U8 h0,GR];show sec (fA d.now (k:Int).toNat (kz s)) j=_;rw[show((k:Nat):Int).toNat=k from by omega];exact wQ fN.now hk (j7 s) hj
 .rw[U9 h0]at he;exact eq he h0
def PJ(fN:d.Ok n)(b:UV)(hb:b.length=256):∀i,i<=4->k+i<=n->(w4 d n k b i).2=0->∀j,j<n->sec (w4 d n k b i).1.now j=if k<=j/\j<k+i then(b.drop (64*(j-k))).take 64 else sec d.now j
 |0,_,_,_,j,_=>by rw[ge];rfl
 |i+1,hi,Gf,he,j,hj=>by
  have h1:(w4 d n k b i).2=0:=by
   by_cases h:(w4 d n k b i).2=0
   .exact h
   .rw[SR d n k b i (i+1) h ls]at he;exact eq he h
  have ih:=PJ fN b hb i ls ls h1 j hj;rw[X9 d n k b i h1]at he ⊢;rw[show(k:Int)+(i:Int)=((k+i:Nat):Int) by omega]at he ⊢;rw[pH (Dd fN k b i) (k+i) ls _ he j hj]
  by_cases Jl:k+i=j
  .rw[U8 Jl,g8,yC _ (by rw[bY,ef];omega)]
   congr 3;omega
  .rw[U9 Jl,ih]
   by_cases hr:k<=j/\j<k+i
   .rw[U8 hr,g8]
   .rw[U9 hr,ge]
def nD(F:UV)(k:Nat):(F.drop (64*k)).take 256=sec F k++sec F (k+1)++sec F (k+2)++sec F (k+3):=by
 have h0:=rX F k 0;have h1:=rX F k 1;have h2:=rX F k 2;have h3:=rX F k 3;simp only[wJ,jK,dD,mq]at h0;rw[show(256:Nat)=64*(3+1)from rfl,h3,h2,h1,h0]
def chunks(b:UV)(hb:b.length=256):(b.drop (64*0)).take 64++(b.drop (64*1)).take 64++(b.drop (64*2)).take 64++(b.drop (64*3)).take 64=b:=by
 have:=nD b 0;rw[wJ,CB,cR ls]at this;exact this.symm
def Jm(fN:d.Ok n)(id:Nat)(b:UV)(hb:b.length=256)(hid:id<cJ n)(he:(w4 d n (2+4*id) b 4).2=0):
  ((w4 d n (2+4*id) b 4).1.now.drop (64*(2+4*id))).take 256=b:=by
 have hk:2+4*id+3<n:=by unfold cJ at hid;omega
 have hw:=PJ fN b hb 4 ls ls he;rw[nD,hw _ ls,hw _ ls,hw _ ls,hw _ ls,g8,g8,g8,g8];have:=chunks b hb;rw[show 2+4*id-(2+4*id)=0 by omega,show 2+4*id+1-(2+4*id)=1 by omega,show 2+4*id+2-(2+4*id)=2 by omega,show 2+4*id+3-(2+4*id)=3 by omega];exact this
def Jn(fN:d.Ok n)(id jd:Nat)(b:UV)(hb:b.length=256)(hid:id<cJ n)(hjd:jd<cJ n)(fy:id≠jd)(he:(w4 d n (2+4*id) b 4).2=0):
  ((w4 d n (2+4*id) b 4).1.now.drop (64*(2+4*jd))).take 256=(d.now.drop (64*(2+4*jd))).take 256:=by
 have hk:2+4*id+3<n:=by unfold cJ at hid;omega
 have Xe:2+4*jd+3<n:=by unfold cJ at hjd;omega
 have hw:=PJ fN b hb 4 ls ls he;rw[nD,hw _ ls,hw _ ls,hw _ ls,hw _ ls,nD,ge,ge,ge,ge]
def Dh{id:Nat}{b:UV}(hid:id<cJ n)(hd:d.down=false)(hb:(d.now.drop (64*(2+4*id))).take 256=b):
  aV d n id=if(jx b).2≠0 then(.zero,(jx b).2)else if(jx b).1.id≠(id:Int)then(.zero,14)else((jx b).1,0):=by
 unfold aV;rw[ge,U9 (by simp[hd]),show((id:Nat):Int).toNat=id from by omega,hb]
def nR(fN:d.Ok n)(hd:d.down=false)(ha:d.aq=0)(id:Nat)(ep kd:Int)(s:UV)(hid:id<cJ n)(hp:Ow id ep kd=true)(hs:s.length<=232):
  (bq d n id ep kd s).2=0/\(bq d n id ep kd s).1.down=false/\(bq d n id ep kd s).1.aq=0/\aV (bq d n id ep kd s).1 n id=(⟨id,ep,kd,ff s 232⟩,0)/\
   ∀jd,jd<cJ n->jd≠id->aV (bq d n id ep kd s).1 n jd=aV d n jd:=by
 have mQ:dh id ep kd s=(lP id ep kd s,0):=by unfold dh;rw[U8 hp,ge]
 have hlen:=(Df (by rw[mQ])).1;rw[mQ]at hlen;have hw:bq d n id ep kd s=w4 d n (2+4*id) (lP id ep kd s) 4:=by
  unfold bq;rw[mQ,i8,ge];rfl
 have hk:2+4*id+4<=n:=by unfold cJ at hid;omega
 have hid2:((id:Nat):Int)<=9223372036854775807:=by have:=fN.small;unfold cJ at hid;omega
 obtain⟨f1,f2,f3⟩:=SU (k:=2+4*id) (lP id ep kd s) hd ha 4 hk;rw[hw];refine⟨f1,f2,f3,?_,λjd hjd fy=>?_⟩
 .rw[Dh hid f2 (Jm fN id _ hlen hid f1),UL hp hid2 hs];simp
 .rw[Dh hjd f2 rfl,Dh hjd hd rfl,Jn fN id jd _ hlen hid hjd (Ne.symm fy) f1]
end Pg
namespace Fm
open Go.RowKit
def ints(l:List Int):List By:=l.map (Value.int U6)
@[simp] theorem ints_length(l:List Int):(ints l).length=l.length:=by simp[ints]
def Yc(l:List Int)(k:Nat)(h:k<l.length):(ints l)[k]?=some (U5 U6 l[k]):=by simp[ints,h]
def ints_set(l:List Int)(k:Nat)(x:Int):(ints l).set k x=ints (l.set k x):=by simp[ints]
def Le(l m:List Int):ints (l++m)=ints l++ints m:=by simp[ints]
def yD(l:List Int)(i:Int):Bool:=decide (0<=i/\i<l.length)
def pw(l:List Int)(i:Int):List Int×Int:=
 if yD l i then(if l.getD i.toNat 0=0 then(l.set i.toNat 1,0)else(l,10))else(l,3)
def du(l:List Int)(i:Int):List Int×Int:=
 if yD l i then(if l.getD i.toNat 0=2 then(l.set i.toNat 0,0)else if l.getD i.toNat 0=1 then(l.set i.toNat 3,0)else(l,9))else(l,3)
def dH(l:List Int)(k:Int):Nat:=l.findIdx (· ==k)
def cP(l:List Int):List Int×Int×Int:=
 if dH l 0<l.length then(l.set (dH l 0) 2,dH l 0,0)else(l,0,11)
def oS(leaving fresh k:Int):Int:=if k=3 then leaving else if k=2 then fresh else k
def iV(leaving fresh:Int)(l:List Int):List Int:=l.map (oS leaving fresh)
def jl(l:List Int)(k:Int):Nat->List Int
 |0=>[]
 |n+1=>jl l k n++if l.getD n 0=k then [(n:Int)]else []
def gY(l:List Int)(k:Int):List Int:=jl l k l.length
def Gg(l:List Int)(k:Int)(n:Nat):(jl l k n).length<=n:=by
 induction n with
 |zero=>simp[jl]
 |succ n ih=>simp only[jl,bC];split<;>simp<;>omega
def wU(a b:Int)(l:List Int):(iV a b l).length=l.length:=by simp[iV]
def kO(a b:Int)(l:List Int)(k:Nat):List Int:=(l.take k).map (oS a b)++l.drop k
def Gh(a b:Int)(l:List Int)(k:Nat):(kO a b l k).length=l.length:=by
 simp[kO];omega
def Lf(a b:Int)(l:List Int):kO a b l 0=l:=by simp[kO]
def PK(a b:Int)(l:List Int):kO a b l l.length=iV a b l:=by simp[kO,iV]
def Di(a b:Int)(l:List Int)(k:Nat)(h:k<l.length):(kO a b l k).getD k 0=l.getD k 0:=by
 unfold kO;simp only[List.getD];rw[eC (by simp;omega)];simp[tJ (Nat.le_of_lt h)]
def Ad(a b:Int)(l:List Int)(k:Nat)(h:k<l.length):kO a b l (k+1)=(kO a b l k).set k (oS a b (l.getD k 0)):=by
 have hk:l.getD k 0=l[k]:=by simp[List.getD,aQ h]
 have h0:k-((l.take k).map (oS a b)).length=0:=by simp;omega
 rw[kO,kO,hk,ij h,eS,cV,tG _ _ (by simp;omega),h0,vi h];rfl
def Yd(l:List Int)(k:Nat):l.set k (l.getD k 0)=l:=by
 rcases fo k l.length with h|h
 .simp only[List.getD,aQ h,j0];exact List.set_getElem_self h
 .exact List.set_eq_of_length_le h
def Lg(a b:Int)(l:List Int)(k:Nat)(h:k<l.length)(h3:oS a b (l.getD k 0)=l.getD k 0):kO a b l (k+1)=kO a b l k:=by
 rw[Ad a b l k h,h3,<-Di a b l k h,Yd]
variable{w:BY}{b g:Nat}{l:List Int}
def Lh:(prog.info? 3).map (λi=>(i.zero,i.size,i.bytes))=some (some (U5 U6 0),1,8):=pm
structure dQ(w:BY)(b g:Nat)(l:List Int):Prop where
 hb:aM w b 218 #[U3 (lc g) l.length l.length]
 hg:aM w g 3 (ints l).toArray
 hl:l.length<=1024
def mp(b:Nat):By:=st (some ⟨b,0,none⟩)
section
variable{w w':BY}{b g:Nat}{l:List Int}{S:List Nat}
def dQ.ne(h:dQ w b g l):b≠g:=h.hb.mx h.hg ms
def dQ.c0(h:dQ w b g l):w.cell? (lc b)=some (U3 (lc g) l.length l.length):=h.hb.ae rfl
def dQ.ck(h:dQ w b g l)(k:Nat)(hk:k<l.length):w.cell? ⟨g,k,none⟩=some (U5 U6 (l.getD k 0)):=by
 refine h.hg.ae ?_;rw[dr,Yc _ _ hk];simp[List.getD,aQ hk]
def dQ.fk(h:dQ w b g l)(k:Nat)(hk:k<l.length):w.frozen? ⟨g,k,none⟩=false:=h.hg.frozen k (by simpa using hk)
def dQ.only(h:dQ w b g l)(ho:ah S w w')(h1:b∉S)(h2:g∉S):dQ w' b g l:=⟨h.hb.only ho h1,h.hg.only ho h2,h.hl⟩
def dQ.below(h:dQ w b g l)(hb:i7 w w'):dQ w' b g l:=h.only (S:=[]) (.aj hb) lw lw
def dQ.drew(h:dQ w b g l):dQ w.drew b g l:=⟨h.hb,h.hg,h.hl⟩
def dQ.ct(h:dQ w b g l)(k:Nat)(x:Int):dQ (w.setCell ⟨g,k,none⟩ x) b g (l.set k x):=by
 refine⟨?_,?_,by simpa using h.hl⟩
 .rw[bR];exact h.hb.bh (by exact h.ne) _
 .have:=h.hg.ct k x;rw[tF,ints_set]at this;exact this
end
def BO(n:Nat)(w:BY)(h:n<=1024):
  io prog 81 #[n] w λe w'=> ∃b g,e=fd (rg #[mp b,U5 U6 0])/\dQ w' b g (it n 0)/\i7 w w'/\w.heap.size<=b/\w.heap.size<=g:=by
 have hmk:∀w':BY,(Instr.makeSlice 60 n n).run prog w'= .ok (U3 (lc w'.heap.size) n n) (w'.alloc (Pi (madeCells #[U5 U6 0] n) 3)):=λw'=>by
  obtain⟨i0,hi,lC,kH,lM⟩:=info_parts Lh;have h:=run_make (P:=prog) w' 60 3 i0 (U5 U6 0) underlying60 hi lC U6 U6 n n ls (dG _) (by rw[lM];omega) ls;simpa [kH,Value.cells]using h
 go_in
 go_wp2
 go_ret2;refine⟨w.heap.size+1,w.heap.size,rfl,⟨?_,?_,by simpa using h⟩,((Below.refl _ _).alloc (ai _) _).alloc lw _,ls,ls⟩
 .have:=aM.new (w.alloc (Pi (madeCells #[U5 U6 0] n) 3)) 218 #[U3 (lc w.heap.size) n n];simpa using this
 .have:=(aM.new w 3 (madeCells #[U5 U6 0] n)).alloc (Pi #[U3 (lc w.heap.size) n n] 218);rw[jB]at this;rw[jB];simpa [ints]using this
def GS(m:dQ w b g l)(i:Int)(h:yD l i=true):
  io prog 183 #[mp b,i] w λe w'=>e=fd (U5 U6 0)/\w=w':=by
 simp only[yD,decide_eq_true_eq]at h;obtain⟨h0,h1⟩:=h;have hl:=m.hl;have c0:=m.c0;unfold mp;go_in
 go_wp2
 go_ret;exact⟨rfl,rfl⟩
def Ye(m:dQ w b g l)(i:Int)(h:yD l i=false):
  io prog 183 #[mp b,i] w λe w'=>e=fd (U5 U6 3)/\w=w':=by
 simp only[yD,decide_eq_false_iff_not]at h;have h':i<0\/(¬i<0/\(l.length:Int)<=i):=ls
 clear h;have hl:=m.hl;have c0:=m.c0;unfold mp
 rcases h' with h|⟨h,h1⟩
 all_goals
  go_in
  go_wp2
  go_ret;exact⟨rfl,rfl⟩
def use_any(m:dQ w b g l)(i:Int):
  io prog 138 #[mp b,i] w λe w'=>e=fd (U5 U6 (pw l i).2)/\dQ w' b g (pw l i).1/\ah [g] w w':=by
 by_cases pI:yD l i=true
 .have rY:=pI;simp only[yD,decide_eq_true_eq]at rY;obtain⟨h0,h1⟩:=rY;obtain⟨k,rfl⟩:=fu h0;have hk:k<l.length:=ls
  have c0:=m.c0;have ck:=m.ck k hk;have fk:=m.fk k hk
  by_cases hz:l.getD k 0=0
  .have hu:pw l k=(l.set k 1,0):=by simp only[pw,pI,if_true,iL,hz]
   rw[hu];rw[hz]at ck;have HU:=xh<|m.ct k 1;clear hz hu;unfold mp;go_in;go_wp2_with fail;go_call (GS m k pI) as e w1 ⟨rfl,rfl⟩;go_wp2;go_ret;exact⟨rfl,HU.o,(ah.refl _ _).setCell lw _⟩
  .have hu:pw l k=(l,10):=by simp only[pw,pI,if_true,iL,U9 hz]
   rw[hu];clear hu fk;generalize l.getD k 0=x at ck hz;unfold mp;go_in;go_wp2_with fail;go_call (GS m k pI) as e w1 ⟨rfl,rfl⟩;go_wp2;go_ret;exact⟨rfl,m,ah.refl _ _⟩
 .have rY:yD l i=false:=by simpa using pI
  have hu:pw l i=(l,3):=by simp only[pw,rY];rfl
  rw[hu];clear hu;unfold mp;go_in;go_wp2_with fail;go_call (Ye m i rY) as e w1 ⟨rfl,rfl⟩;go_wp2;go_ret;exact⟨rfl,m,ah.refl _ _⟩
variable{w:BY}{b g:Nat}{l:List Int}
def tX(m:dQ w b g l)(i:Int):
  io prog 153 #[mp b,i] w λe w'=>e=fd (U5 U6 (du l i).2)/\dQ w' b g (du l i).1/\ah [g] w w':=by
 by_cases pI:yD l i=true
 .have rY:=pI;simp only[yD,decide_eq_true_eq]at rY;obtain⟨h0,h1⟩:=rY;obtain⟨k,rfl⟩:=fu h0;have hk:k<l.length:=ls
  have c0:=m.c0;have ck:=m.ck k hk;have fk:=m.fk k hk
  by_cases hz:l.getD k 0=2
  .have hu:du l k=(l.set k 0,0):=by simp only[du,pI,if_true,iL,hz]
   rw[hu];rw[hz]at ck;have HU:=xh<|m.ct k 0;clear hz hu;unfold mp;go_in;go_wp2_with fail;go_call (GS m k pI) as e w1 ⟨rfl,rfl⟩;go_wp2;go_ret;exact⟨rfl,HU.o,(ah.refl _ _).setCell lw _⟩
  .by_cases kH:l.getD k 0=1
   .have hu:du l k=(l.set k 3,0):=by simp only[du,pI,if_true,iL,kH];rfl
    rw[hu];rw[kH]at ck;have HU:=xh<|m.ct k 3;clear hz kH hu;unfold mp;go_in;go_wp2_with fail;go_call (GS m k pI) as e w1 ⟨rfl,rfl⟩;go_wp2;go_ret;exact⟨rfl,HU.o,(ah.refl _ _).setCell lw _⟩
   .have hu:du l k=(l,9):=by simp only[du,pI,if_true,iL,U9 hz,U9 kH]
    rw[hu];clear hu fk;generalize l.getD k 0=x at ck hz kH;unfold mp;go_in;go_wp2_with fail;go_call (GS m k pI) as e w1 ⟨rfl,rfl⟩;go_wp2;go_ret;exact⟨rfl,m,ah.refl _ _⟩
 .have rY:yD l i=false:=by simpa using pI
  have hu:du l i=(l,3):=by simp only[du,rY];rfl
  rw[hu];clear hu;unfold mp;go_in;go_wp2_with fail;go_call (Ye m i rY) as e w1 ⟨rfl,rfl⟩;go_wp2;go_ret;exact⟨rfl,m,ah.refl _ _⟩
def Li(l:List Int)(k:Int)(n:Nat)(hn:n<=l.length)(h:∀j,j<n->l.getD j 0≠k):n<=dH l k:=by
 rcases fo (dH l k) n with dP|CH
 .have h1:l.findIdx (· ==k)<l.length:=by unfold dH at dP;omega
  have h2:=rN (w:=h1);have h3:=h _ dP;unfold dH at h3;simp only[List.getD,aQ h1,j0]at h3;exact eq (by simpa using h2) h3
 .exact CH
def Yf(l:List Int)(k:Int)(n:Nat)(hn:n<l.length)(h:∀j,j<n->l.getD j 0≠k)(hk:l.getD n 0=k):dH l k=n:=by
 have h1:=Li l k n ls h;have h2:dH l k<=n:=by
  unfold dH;have hg:l[n]=k:=by simpa [List.getD,aQ hn]using hk
  rcases fo n (l.findIdx (· ==k))with dP|CH
  .have:=Bm dP;simp[hg]at this
  .exact CH
 omega
def PL(l:List Int)(k:Int)(h:∀j,j<l.length->l.getD j 0≠k):dH l k=l.length:=by
 have:=Li l k l.length (ai _) h;have h2:dH l k<=l.length:=qt;omega
def lW(l:List Int)(k:Int):Int:=if dH l k<l.length then(dH l k:Int)else -1
def tY(g n c:Nat)(l:List Int)(hn:n=l.length)(hm:n<=1000000)(k:Int)(w:BY)(hc:∀j,j<l.length->w.cell? ⟨g,j,none⟩=some (U5 U6 (l.getD j 0))):
  io prog 165 #[U3 (some ⟨g,0,none⟩) n c,U5 U6 k] w λe w'=>e=fd (U5 U6 (lW l k))/\w=w':=by
 subst hn;go_in
 go_wp2
 go_loop [5,8] (λ_ i=> ∃j:Nat,j<=l.length/\i=U5 U6 j/\Hid (∀x,x<j->l.getD x 0≠k)) (λ_ i=>l.length-(intOf i).toNat)
 case atStart=>exact⟨0,by omega,rfl,xh (by omega)⟩
 case round=>
  obtain⟨j,hj,rfl,H⟩:=hrel
  by_cases h:j<l.length
  .have cj:=hc j h;clear hc
   by_cases hk:l.getD j 0=k
   .have he:lW l k=j:=by unfold lW;rw[Yf l k j h H.o hk,U8 h]
    have HE:=xh he;clear he;rw[hk]at cj;clear hk
    go_wp2
    go_ret;exact⟨by rw[HE.o];rfl,rfl⟩
   .have H2:=xh (show ∀x,x<j+1->l.getD x 0≠k from λx hx=>by
     rcases fo x j with h1|h1
     .exact H.o x h1
     .have:x=j:=by omega
      subst this;exact hk)
    have hk':(k==l.getD j 0)=false:=by simp;exact λe=>hk e.symm
    clear hk;generalize l.getD j 0=y at *
    go_wp2
    go_round
    case rel=>exact⟨j+1,by omega,by go_num,H2⟩
    case measure=>simp[intOf];omega
  .have hjl:j=l.length:=by omega
   have he:lW l k= -1:=by
    unfold lW;rw[PL l k (by rw[<-hjl];exact H.o),ge]
   have HE:=xh he;clear he hjl hc
   go_wp2
   go_ret;exact⟨by rw[HE.o];rfl,rfl⟩
def GU(m:dQ w b g l)(k:Int):
  io prog 195 #[mp b,k] w λe w'=>e=fd (U5 U6 (lW l k))/\w=w':=by
 have hl:=m.hl;have c0:=m.c0;have HC:=xh m.ck;unfold mp;go_in;go_wp2_with fail;go_call (tY g _ _ l rfl ls k _ HC.o) as e w1 ⟨rfl,rfl⟩;go_wp2;go_ret;exact⟨rfl,rfl⟩
def wN(m:dQ w b g l):
  io prog 151 #[mp b] w λe w'=>e=fd (rg #[U5 U6 (cP l).2.1,U5 U6 (cP l).2.2])/\dQ w' b g (cP l).1/\ah [g] w w':=by
 have hl:=m.hl;have c0:=m.c0
 by_cases h:dH l 0<l.length
 .have hu:cP l=(l.set (dH l 0) 2,(dH l 0:Int),0):=by rw[cP,U8 h]
  have hi:lW l 0=dH l 0:=by rw[lW,U8 h]
  rw[hu];have K:=xh<|hi▸GU m 0;have ck:=m.ck _ h;have fk:=m.fk _ h;have HU:=xh<|m.ct (dH l 0) 2;clear hu hi;generalize dH l 0=k at *;unfold mp at *;go_in;go_wp2_with fail;go_call (K.o) as e w1 ⟨rfl,rfl⟩;go_wp2;go_ret2;exact⟨rfl,HU.o,(ah.refl _ _).setCell lw _⟩
 .have hu:cP l=(l,0,11):=by rw[cP,U9 h]
  have hi:lW l 0= -1:=by rw[lW,U9 h]
  rw[hu];have K:=xh<|hi▸GU m 0;clear hu hi h;unfold mp at *;go_in;go_wp2_with fail;go_call (K.o) as e w1 ⟨rfl,rfl⟩;go_wp2;go_ret2;exact⟨rfl,m,ah.refl _ _⟩
variable{w:BY}{b g:Nat}{l:List Int}
def Lj(m:dQ w b g l)(a c:Int):
  io prog 200 #[mp b,a,c] w λe w'=>e=fd (WF true)/\dQ w' b g (iV a c l)/\ah [g] w w':=by
 have hl:=m.hl;have c0:=m.c0;have HM:=xh m;clear m;unfold mp;go_in
 go_wp2
 go_loopw [7,8,16] (λ_ _ i wr=> ∃k:Nat,k<=l.length/\i=U5 U6 k/\dQ wr b g (kO a c l k)/\ah [g] w wr) (λ_ _ i _=>l.length-(intOf i).toNat)
 case atStart=>exact⟨0,ls,rfl,by rw[Lf];exact HM.o,ah.refl _ _⟩
 case round=>
  obtain⟨k,hk,rfl,M,O⟩:=hrel;have HL:=xh<|Gh a c l k
  by_cases h:k<l.length
  .have c0r:wr.cell? (lc b)=some (U3 (lc g) l.length l.length):=by rw[<-HL.o];exact M.c0
   have ck:=M.ck k (by rw[HL.o];exact h);have fk:=M.fk k (by rw[HL.o];exact h);rw[Di a c l k h]at ck;have HS:=xh<|Ad a c l k h;have HE:=xh<|Lg a c l k h;have M3:=xh<|M.ct k
   by_cases h3:l.getD k 0=3
   .rw[h3]at ck;have HX:=xh h3;clear h3
    go_wp2
    go_roundw
    case rel=>exact⟨k+1,ls,by go_num,by rw[HS.o,HX.o];exact M3.o a,O.setCell lw _⟩
    case measure=>simp[intOf];omega
   .by_cases h2:l.getD k 0=2
    .rw[h2]at ck;have HX:=xh h2;clear h3 h2
     go_wp2
     go_roundw
     case rel=>exact⟨k+1,ls,by go_num,by rw[HS.o,HX.o];exact M3.o c,O.setCell lw _⟩
     case measure=>simp[intOf];omega
    .have HX:=xh<|HE.o (by rw[oS,U9 h3,U9 h2]);generalize l.getD k 0=x at *
     go_wp2
     go_roundw
     case rel=>exact⟨k+1,ls,by go_num,by rw[HX.o];exact M,O⟩
     case measure=>simp[intOf];omega
  .have lQ:k=l.length:=ls
   have HX:=xh lQ;clear lQ
   go_wp2
   go_ret;exact⟨rfl,by rw[<-PK,<-HX.o];exact M,O⟩
def PM(m:dQ w b g l):
  io prog 154 #[mp b] w λe w'=>e=fd (WF true)/\dQ w' b g (iV 0 1 l)/\ah [g] w w':=by
 have K:=xh<|Lj m;unfold mp at *;go_in;go_wp2_with fail;go_call (K.o _ _) as e w1 ⟨rfl,m1,o1⟩;go_wp2;go_ret;exact⟨rfl,m1,o1⟩
def UM(m:dQ w b g l):
  io prog 155 #[mp b] w λe w'=>e=fd (WF true)/\dQ w' b g (iV 1 0 l)/\ah [g] w w':=by
 have K:=xh<|Lj m;unfold mp at *;go_in;go_wp2_with fail;go_call (K.o _ _) as e w1 ⟨rfl,m1,o1⟩;go_wp2;go_ret;exact⟨rfl,m1,o1⟩
def PN{v:By}{n:Nat}(S:bm w 3 1 v n (ints l))(x:Int)(hn:n<=1000000):
  ∃v' w',(Builtin.append_ #[60,60] 60 #[v,U3 (lc w.heap.size) 1 1]).run prog (w.alloc (Pi #[x] 3))= .ok v' w'/\bm w' 3 1 v' (n+1) (ints (l++[x]))/\ah (ak v) w w'/\(∀g∈ak v',g∈ak v\/w.heap.size<=g):=by
 obtain⟨i0,hi,lC,kH,lM⟩:=info_parts Lh;obtain⟨v',w',h1,h2,h3,h4⟩:=eu (P:=prog) (S.alloc (Pi #[x] 3)) 60 60 i0 (U5 U6 0) 8 underlying60 hi lC kH lM rfl ls
  ⟨w.heap.size,0,none⟩ 1 1 [x] rfl (bT (l:=[x]) (aM.new w 3 #[x]) 0 _ lw) (by simp[Value.oneCell']) (by unfold maxLen;omega) ls
 refine⟨v',w',h1,by rw[Le];exact h2,((ah.refl _ _).alloc _).bj h3 (λx hx _=>hx),λg hg=>(h4 g hg).imp id (λh=>by simp at h;omega)⟩
def lF(m:dQ w b g l)(kind:Int):
  io prog 194 #[mp b,kind] w λe w'=> ∃v,e=fd v/\bm w' 3 1 v (gY l kind).length (ints (gY l kind))/\i7 w w'/\(∀x∈ak v,w.heap.size<=x):=by
 have hl:=m.hl;have c0:=m.c0;have HM:=xh m;clear m;unfold mp;go_in
 go_wp2
 go_loopw [5,6,7,16] (λv _ _ i wr=> ∃k:Nat,k<=l.length/\i=U5 U6 k/\bm wr 3 1 v (jl l kind k).length (ints (jl l kind k))/\i7 w wr/\(∀x∈ak v,w.heap.size<=x)) (λ_ _ _ i _=>l.length-(intOf i).toNat)
 case atStart=>exact⟨0,ls,rfl,bm.nil _ _ _,Below.refl _ _,by simp[ak]⟩
 case round=>
  obtain⟨k,hk,rfl,S,O,F⟩:=hrel;have F:=xh F;have dP:=Gg l kind k
  by_cases h:k<l.length
  .have M:=HM.o.below O;have ck:=M.ck k h
   by_cases h3:l.getD k 0=kind
   .have HX:=g9 (jl l kind (k+1)=jl l kind k++[(k:Int)]) (by simp only[jl,U8 h3]);rw[h3]at ck;clear h3 M;obtain⟨v',w',ea,S',O',F'⟩:=PN S k ls;have F':=xh F';have EA:=xh ea;clear ea;generalize jl l kind k=L at *;go_wp2_with (at_builtin;refine wpList_append_run rfl _ _ _ rfl _ _ rfl rfl EA.o ?_);go_roundw
    case rel=>exact⟨k+1,ls,by go_num,by rw[HX.o];simpa using S',O.trans (O'.bI O.size F.o),λx hx=>(F'.o x hx).elim (F.o x) (λh=>aD O.size h)⟩
    case measure=>simp[intOf];omega
   .have HX:=g9 (jl l kind (k+1)=jl l kind k) (by simp only[jl,U9 h3];simp);generalize l.getD k 0=x at *;clear M;have fy:(x==kind)=false:=by simpa using h3
    go_wp2
    go_roundw
    case rel=>exact⟨k+1,ls,by go_num,by rw[HX.o];exact S,O,F.o⟩
    case measure=>simp[intOf];omega
  .have lQ:k=l.length:=ls
   have HX:=xh lQ;clear lQ
   go_wp2
   go_ret;refine⟨_,rfl,?_,O,F.o⟩;unfold gY;rw[<-HX.o];exact S
variable{w:BY}{l:List Int}{b g:Nat}
def slc_len{e:us}{size n:Nat}{v:By}{l:List By}(S:bm w e size v n l):∃A c,v=U3 A n c:=by
 rcases S.2 with⟨rfl,rfl⟩|⟨g,cap,rest,rfl,_⟩
 .exact⟨none,0,rfl⟩
 .exact⟨_,cap,rfl⟩
def Yg(m:dQ w b g l):
  io prog 150 #[mp b] w λe w'=>e=fd (U5 U6 (gY l 0).length)/\i7 w w':=by
 have K:=xh<|lF m 0;unfold mp at *;go_in;go_wp2_with fail;go_call (K.o) as e w1 ⟨v,rfl,S,hb,-⟩;obtain⟨A,c,rfl⟩:=slc_len S;go_wp2;go_ret;exact⟨rfl,hb⟩
def bA(l:List Int)(i:Int):Bool:=yD l i && (l.getD i.toNat 0==2)
def tZ(m:dQ w b g l)(i:Int):
  io prog 192 #[mp b,i] w λe w'=>e=fd (WF (bA l i))/\w=w':=by
 by_cases pI:yD l i=true
 .have rY:=pI;simp only[yD,decide_eq_true_eq]at rY;obtain⟨h0,h1⟩:=rY;obtain⟨k,rfl⟩:=fu h0;have hk:k<l.length:=ls
  have c0:=m.c0;have ck:=m.ck k hk;have HF:=g9 (bA l k=(l.getD k 0==2)) (by simp only[bA,pI,ON,iL]);generalize l.getD k 0=x at ck HF;unfold mp;go_in;go_wp2_with fail;go_call (GS m k pI) as e w1 ⟨rfl,rfl⟩;go_wp2;go_ret;exact⟨by rw[HF.o];rfl,rfl⟩
 .have rY:yD l i=false:=by simpa using pI
  have HF:=g9 (bA l i=false) (by simp only[bA,rY,Bool.false_and]);unfold mp;go_in;go_wp2_with fail;go_call (Ye m i rY) as e w1 ⟨rfl,rfl⟩;go_wp2;go_ret;exact⟨by rw[HF.o];rfl,rfl⟩
end Fm
end Go.Proofs.YtmonobkginiajaaGreat
