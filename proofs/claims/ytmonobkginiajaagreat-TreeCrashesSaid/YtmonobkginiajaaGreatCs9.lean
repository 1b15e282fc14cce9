/- packed. -/
import Derived.Lib.Overlaps
import Derived.Lib.SliceRun
import Derived.Lib.AppendZerosOnto
import Derived.Test.YtmonobkginiajaaGreatCs8
import Derived.Test.YtmonobkginiajaaGreatCs6
set_option linter.all false
set_option maxRecDepth 100000
set_option maxHeartbeats 8000000
namespace Go.Proofs.YtmonobkginiajaaGreat
open Go.Proofs.Tryz
open Value renaming string→U7,slice→U3,int→U5,bool→WF
open Ending renaming returned→fd
open IntKind renaming i64→U6
open Obj renaming cells→Pi
open Go renaming World→BY,Value→By,Calls→io,maxLen→sh,TypeId→us
section
open Go.RowKit
noncomputable def Ck(P:Program)(T T' ty:us)(w:BY)(d s:By):Result By:=(Builtin.copy_ #[T,T'] ty #[d,s]).run P w
def MG(P:Program)(ρ:Operand->By)(dst:Option Tmp)(d s:Operand)(T T' t:us)(p:String)(af:Array Edge)(g:Option (Nat×Bool))(w:BY):
  (execOp ρ {dst:=dst,op:= .call {callee:= .builtin .copy,args:= #[d,s],argTypes:= #[T,T']},type:=t,pos:=p,after:=af,guard:=g}).run P w=(Ck P T T' t w (ρ d) (ρ s)).andThen λv w'=> .ok (.value v) w':=by
 simp[execOp,resolve,invoke,builtin,Ck]
noncomputable def xH(P:Program)(T ty:us)(w:BY)(s:By):Result By:=(Builtin.clear_ #[T] ty #[s]).run P w
def Zx(P:Program)(ρ:Operand->By)(dst:Option Tmp)(s:Operand)(T t:us)(p:String)(af:Array Edge)(g:Option (Nat×Bool))(w:BY):
  (execOp ρ {dst:=dst,op:= .call {callee:= .builtin .clear,args:= #[s],argTypes:= #[T]},type:=t,pos:=p,after:=af,guard:=g}).run P w=(xH P T t w (ρ s)).andThen λv w'=> .ok (.value v) w':=by
 simp[execOp,resolve,invoke,builtin,xH]
def xI{P:Program}{w:BY}{g:Nat}{t:us}{cur:List By}(B:aM w g t cur.toArray)(T ty elem:us)(sz o wL CI:Nat)(a:Addr)(Pp sCap:Nat)(cs:List By)
  (hu:P.underlying T=some (.slice elem))(hs:(P.info? elem).map (·.size)=some sz)(hn:cs.length=Nat.min Pp wL*sz)
  (Xx:∀j v,cs[j]?=some v->w.cell? (a.add j)=some v)(uN:o+cs.length<=cur.length)(h1:∀v∈cs,v.oneCell'=true):
  ∃w',Ck P T T ty w (U3 (some ⟨g,o,none⟩) wL CI) (U3 (some a) Pp sCap)= .ok (goInt (Nat.min Pp wL)) w'/\aM w' g t (putAt cur o cs).toArray/\ah [g] w w':=by
 refine⟨w.setCells g o cs,?_,B.setCells cs o uN,(ah.refl _ _).setCells cs o lw⟩;have hl:=run_loadCells_list (P:=P) w a cs Xx;have x6:=run_storeCells_cells (P:=P) g o cs 0 w (by intro j hj;rw[B.cell];simp;omega) (by intro j hj;exact B.frozen _ (by simp;omega)) h1
 cases hq:P.info? elem with
 |none=>simp[hq]at hs
 |some i=>
  have hi:i.size=sz:=by simpa [hq]using hs
  simp[Ck,Builtin.copy_,run_underlying hu,Builtin.lenOf,Builtin.firstCells,sizeOf,typeInfo,hq,hi,<-hn,hl,x6]
def Hv{P:Program}{w:BY}{g:Nat}{t:us}{cur:List By}(B:aM w g t cur.toArray)(T ty elem:us)(sz n cap:Nat)(a:Addr)(m c:Nat)(cs:List By)
  (hu:P.underlying T=some (.slice elem))(hs:(P.info? elem).map (·.size)=some sz)(hn:cs.length=m*sz)
  (Xx:∀j v,cs[j]?=some v->w.cell? (a.add j)=some v)(hr:n+m<=cap)(uN:n*sz+cs.length<=cur.length)(h1:∀v∈cs,v.oneCell'=true):
  ∃w',eM P T ty w (U3 (lc g) n cap) (U3 (some a) m c)= .ok (U3 (lc g) (n+m) cap) w'/\aM w' g t (putAt cur (n*sz) cs).toArray/\ah [g] w w':=by
 cases hq:P.info? elem with
 |none=>simp[hq]at hs
 |some i=>
  have hi:i.size=sz:=by simpa [hq]using hs
  subst hi;have h:=run_append_room_cells (P:=P) w T ty elem i hu hq g 0 n cap a m c cs hn Xx h1 hr (λj hj=>by rw[B.cell];simp;omega) (λj hj=>B.frozen _ (by simp;omega));rw[bV]at h;exact⟨_,h,B.setCells cs _ uN,(ah.refl _ _).setCells cs _ lw⟩
def Hw{P:Program}{w:BY}{g:Nat}{t:us}{cur:List By}(B:aM w g t cur.toArray)(T ty elem:us)(z:By)(o c:Nat)
  (hu:P.underlying T=some (.slice elem))(hz:∀w,(zeroValue elem).run P w=.ok z w)(uN:o+z.cells.toList.length<=cur.length)(h1:∀v∈z.cells.toList,v.oneCell'=true):
  ∃w',xH P T ty w (U3 (some ⟨g,o,none⟩) 1 c)= .ok (.tuple #[]) w'/\aM w' g t (putAt cur o z.cells.toList).toArray/\ah [g] w w':=by
 refine⟨w.setCells g o z.cells.toList,?_,B.setCells _ o uN,(ah.refl _ _).setCells _ o lw⟩;have hzc:(Builtin.zeroCells z.cells 1).toList=z.cells.toList:=by
  simp[Builtin.zeroCells];apply vq
  .simp
  .intro i h1 h2;have:i<z.cells.size:=by simpa using h2
   simp[Nat.mod_eq_of_lt this];rw[getElem!_pos z.cells i this]
 have x6:=run_storeCells_cells (P:=P) g o z.cells.toList 0 w (by intro j hj;rw[B.cell];simp at hj uN ⊢;omega) (by intro j hj;exact B.frozen _ (by simp at hj uN ⊢;omega)) h1;simp only[mq]at x6;simp[xH,Builtin.clear_,run_underlying hu,hz,hzc,x6]
namespace Nd
open Sl
section
attribute [local go_sem ↓] bP MG Zx
def pX:(prog.info? 111).map (·.size)=some 3:=pm
def VI(l:List E)(rest:List By)(i:Nat)(hi:i<l.length)(z:List By)(hz:z.length=3):
  putAt (putAt (aL l++rest) (i*3) (aL (l.drop (i+1)))) ((l.length-1)*3) z=aL (l.eraseIdx i)++(z++rest):=by
 have e1:putAt (aL l++rest) (i*3) (aL (l.drop (i+1)))=aL (l.eraseIdx i)++(aL (l.drop (l.length-1))++rest):=by
  unfold putAt;rw[lz (by rw[aA];omega),zh,aA,ef,show i*3+(l.length-(i+1))*3=(l.length-1)*3 by omega,
   rM (by rw[aA];omega),nK,<-jf,<-List.eraseIdx_eq_take_drop_succ]
 have e2:(aL (l.eraseIdx i)).length=(l.length-1)*3:=by rw[aA,List.length_eraseIdx];split<;>omega
 have e3:(aL (l.drop (l.length-1))).length=3:=by rw[aA,ef];omega
 rw[e1];unfold putAt;rw[hz,<-e2,tI,cV,<-jF,vj,<-e3,vj]
def sQ{w:BY}{A:Option Addr}{n c:Nat}{l:List E}(S:bm w 111 3 (U3 A n c) n (aL l))(i:Nat)(hi:i<n)(hn:n<=100000):
  io prog 72 #[U3 A n c,(i:Nat),U5 U6 ((i:Int)+1)] w λe w'=>e=fd (U3 A (n-1) c)/\bm w' 111 3 (U3 A (n-1) c) (n-1) (aL (l.eraseIdx i))/\ah (ak (U3 A n c)) w w':=by
 obtain⟨g,cap,rest,hv,BG,hcn,Bg⟩:=S.form ls ls;simp only[Value.slice.injEq,true_and]at hv;obtain⟨rfl,rfl⟩:=hv;have rS:c<=sh:=by obtain⟨_,_,_,_,h⟩:=S.ya;exact h
 have wM:l.length=n:=by have:=S.1;rw[aA]at this;omega
 have pD:=xh wM;have Xm:=g9 (rest.length=c*3-n*3) (by rw[aA,wM]at Bg;omega);have BD:=xh BG;clear S wM Bg BG;unfold sh at rS;have s1:(i:Int)<=(i:Int)+1:=ls
 have s2:(i:Int)+1<=(n:Int):=ls
 have s3:(n:Int)<=(c:Int):=ls
 have s4:((i:Int)+1).toNat=i+1:=ls
 have s5:¬(i:Int)=(i:Int)+1:=ls
 have s6:(0:Int)<=(i:Int)+1:=ls
 have s7:(i:Int)<=(n:Int):=ls
 have s8:(i:Int)<=(c:Int):=ls
 have s9:(i:Int)+1<=(c:Int):=ls
 have s10:¬c=i:=ls
 have s12:n-(n-1)=1:=ls
 go_in;go_wp2_with fail;have vP:=xh (show(n-1)*3+(Value.agg #[U7 ⟨#[]⟩,U7 ⟨#[]⟩,U5 U6 0]).cells.toList.length<=(putAt (aL l++rest) (i*3) (aL (l.drop (i+1)))).length from by
  rw[lB (by rw[aA,ef,bC,aA,pD.o,Xm.o];omega),bC,aA,pD.o,Xm.o];show(n-1)*3+3<=_;omega)
 have HDC:=xh (show putAt (putAt (aL l++rest) (i*3) (aL (l.drop (i+1)))) ((n-1)*3) (Value.agg #[U7 ⟨#[]⟩,U7 ⟨#[]⟩,U5 U6 0]).cells.toList=aL (l.eraseIdx i)++((Value.agg #[U7 ⟨#[]⟩,U7 ⟨#[]⟩,U5 U6 0]).cells.toList++rest)from by
  have:=VI l rest i (by rw[pD.o];exact hi) (Value.agg #[U7 ⟨#[]⟩,U7 ⟨#[]⟩,U5 U6 0]).cells.toList rfl;rw[pD.o]at this;exact this)
 have FW:=xh (show(l.eraseIdx i).length=n-1 from by rw[List.length_eraseIdx,pD.o,U8 hi]);have HRL:=xh (show(aL (l.eraseIdx i)).length+((Value.agg #[U7 ⟨#[]⟩,U7 ⟨#[]⟩,U5 U6 0]).cells.toList++rest).length=c*3 from by
  rw[aA,FW.o,bC,Xm.o];show(n-1)*3+(3+(c*3-n*3))=c*3;omega)
 have HCM:=xh rS;have VJ:∀(a:Addr),(i+1<n->a=⟨g,(i+1)*3,none⟩)->∀j v,(aL (l.drop (i+1)))[j]?=some v->w.drew.cell? (a.add j)=some v:=λa ha j v hv=>by
  have hl:i+1<n:=by
   have:=(aW.1 hv).1;rw[aA,ef,pD.o]at this;omega
  rw[ha hl,jq];refine(BD.o.drew.cell _).trans ?_;rw[<-nK,iu]at hv;rw[dr,bX (aW.1 hv).1,hv]
 by_cases Ku:c=i+1
 .have s11:c-(i+1)=0:=ls
  have HN:=g9 (n=i+1) ls
  replace Ku:=xh Ku
  refine kw (λ_=>True) (trivial) (λaC=>?_);refine dj [(0,20),(1,21),(2,22),(3,23),(4,24),(5,25)] ?_
  iterate 6 refine bJ ?_
  refine dV 6 26 λK hK=>?_;go_simp;obtain⟨w2,ea,B2,oa⟩:=Hv (P:=prog) BD.o.drew 108 108 111 3 i c ⟨g,0,none⟩ (n-(i+1)) 0 (aL (l.drop (i+1))) underlying108 pX (by rw[aA,ef,pD.o]) (VJ _ (λh=>by first|rfl|(have:=HN.o;omega))) ls (by rw[aA,ef,pD.o];simp only[bC,aA,pD.o];have:=Xm.o;omega) (mM _);rw[show i+(n-(i+1))=n-1 by omega]at ea;have EA:=xh ea
  have B2:=xh B2;have OA:=xh oa;clear ea oa;rw[U8 Ku.o,EA.o];go_simp;refine ip hK ?_;refine dj [(7,0)] ?_
  iterate 1 refine bJ ?_
  refine jp ?_ _;have B2c:=B2.o;obtain⟨w3,ec,B3,oc⟩:=Hw (P:=prog) B2c 108 0 111 (.agg #[U7 ⟨#[]⟩,U7 ⟨#[]⟩,U5 U6 0]) ((n-1)*3) (c-(n-1)) underlying108 Tryz.zeroValue111 vP.o (by simp;decide);rw[HDC.o]at B3;have EC:=xh ec;have B3:=xh B3;have OC:=xh<|OA.o.trans oc;clear ec oc B2c;go_wp2_with fail;rw[EC.o];go_wp2;go_ret
  exact bz ⟨⟨by rw[aA,FW.o],.inr ⟨g,c,_,rfl,B3.o,by rw[HRL.o],HCM.o⟩⟩,by simpa [ak]using (ah.refl [g] w).drew.trans OC.o⟩
 .have s11:¬c=i+1:=Ku;refine kw (λ_=>True) (trivial) (λaC=>?_);refine dj [(0,20),(1,21),(2,22),(3,23),(4,24),(5,25)] ?_
  iterate 6 refine bJ ?_
  refine dV 6 26 λK hK=>?_;go_simp;obtain⟨w2,ea,B2,oa⟩:=Hv (P:=prog) BD.o.drew 108 108 111 3 i c ⟨g,(i+1)*3,none⟩ (n-(i+1)) (c-(i+1)) (aL (l.drop (i+1))) underlying108 pX (by rw[aA,ef,pD.o]) (VJ _ (λh=>by first|rfl|(have:=HN.o;omega))) ls (by rw[aA,ef,pD.o];simp only[bC,aA,pD.o];have:=Xm.o;omega) (mM _);rw[show i+(n-(i+1))=n-1 by omega]at ea
  have EA:=xh ea;have B2:=xh B2;have OA:=xh oa;clear ea oa;rw[EA.o];go_simp;refine ip hK ?_;refine dj [(7,0)] ?_
  iterate 1 refine bJ ?_
  refine jp ?_ _;have B2c:=B2.o;obtain⟨w3,ec,B3,oc⟩:=Hw (P:=prog) B2c 108 0 111 (.agg #[U7 ⟨#[]⟩,U7 ⟨#[]⟩,U5 U6 0]) ((n-1)*3) (c-(n-1)) underlying108 Tryz.zeroValue111 vP.o (by simp;decide);rw[HDC.o]at B3;have EC:=xh ec;have B3:=xh B3;have OC:=xh<|OA.o.trans oc;clear ec oc B2c;go_wp2_with fail;rw[EC.o];go_wp2;go_ret
  exact bz ⟨⟨by rw[aA,FW.o],.inr ⟨g,c,_,rfl,B3.o,by rw[HRL.o],HCM.o⟩⟩,by simpa [ak]using (ah.refl [g] w).drew.trans OC.o⟩
def ux:(prog.info? 111).map (λi=>(i.zero,i.size,i.bytes))=some (some (.agg #[U7 ⟨#[]⟩,U7 ⟨#[]⟩,U5 U6 0]),3,40):=pm
def zo(e:E):∀v∈e.cells,v.oneCell'=true:=λv hv=>by
 have:=mM [e] v (by simpa [aL]using hv);exact this
def Cl{α:Type}(e:α):∀(l:List α) (i:Nat),i<=l.length->l.insertIdx i e=l.take i++e::l.drop i
 |_,0,_=>by simp
 |[],i+1,h=>eq h lw
 |a::l,i+1,h=>by
  rw[Pj,Cl e l i (by simpa using h)];rfl
def Zy(l:List E)(e:E)(rest:List By)(i:Nat)(hi:i<=l.length)(hr:3<=rest.length):
  putAt (putAt (aL l++rest) ((i+1)*3) (aL (l.drop i))) (i*3) e.cells=aL (l.insertIdx i e)++rest.drop 3:=by
 have e0:e.cells.length=3:=rfl;have e1:l.insertIdx i e=l.take i++e::l.drop i:=Cl e l i hi;have e2:(aL (l.take i)).length=i*3:=by rw[aA,bY];omega
 have e3:(aL (l.drop i)).length=(l.length-i)*3:=by rw[aA,ef]
 have e5:(aL l++rest)=aL (l.take i)++(aL (l.drop i)++rest):=by rw[<-cV,<-jf,mo]
 have hlen:(aL l++rest).length=l.length*3+rest.length:=by rw[bC,aA]
 have a1:(putAt (aL l++rest) ((i+1)*3) (aL (l.drop i))).take (i*3)=aL (l.take i):=by
  unfold putAt;rw[cV,lz (by rw[bY,hlen];omega),Ja,tJ ls,e5,<-e2,tI]
 have a2:(putAt (aL l++rest) ((i+1)*3) (aL (l.drop i))).drop (i*3+3)=aL (l.drop i)++rest.drop 3:=by
  unfold putAt;rw[cV,show i*3+3=((aL l++rest).take ((i+1)*3)).length by rw[bY,hlen];omega,vj]
  congr 1
  rw[e3,List.drop_append,lT (by rw[aA];omega),dD,aA]
  congr 1
  omega
 rw[e1,jf,l8,cV,cV,<-a1,<-a2,show putAt (putAt (aL l++rest) ((i+1)*3) (aL (l.drop i))) (i*3) e.cells=(putAt (aL l++rest) ((i+1)*3) (aL (l.drop i))).take (i*3)++e.cells++(putAt (aL l++rest) ((i+1)*3) (aL (l.drop i))).drop (i*3+e.cells.length)from rfl,e0,cV]
def MH{w:BY}{A:Option Addr}{n c:Nat}{l:List E}(S:bm w 111 3 (U3 A n c) n (aL l))(e:E){g2 cc:Nat}(B2:aM w g2 111 e.cells.toArray)(hn:n<=100000):
  io prog 74 #[U3 A n c,(n:Nat),U3 (lc g2) 1 cc] w λr w'=> ∃A' c',r=fd (U3 A' (n+1) c')/\bm w' 111 3 (U3 A' (n+1) c') (n+1) (aL (l++[e]))/\ah (ak (U3 A n c)) w w'/\∀x∈ak (U3 A' (n+1) c'),x∈ak (U3 A n c)\/w.heap.size<=x:=by
 obtain⟨i0,hi,lC,kH,lM⟩:=info_parts ux;have hl:=S.1;rw[aA]at hl;obtain⟨v',w',ea,S2,o2,f2⟩:=eu (P:=prog) S 108 108 i0 _ 40 underlying108 hi lC kH lM rfl ls ⟨g2,0,none⟩ 1 cc e.cells rfl (bT (l:=e.cells) B2 0 _ lw) (zo e) (by unfold sh;omega) ls;obtain⟨A',c',rfl⟩:=aI S2;have EA:=g9 (eM prog 108 108 w (U3 A n c) (U3 (lc g2) 1 cc)=_) ea;have S2:=xh S2
 have o2:=xh o2;have f2:=xh f2;have HC:A=none/\n=0/\c=0\/∃g,A=some ⟨g,0,none⟩/\n<=c/\c<=sh:=by
  rcases S.2 with⟨h1,h2⟩|⟨g,cap,rest,h1,h2,h3,h4⟩
  .injection h1 with a1 a2 a3
   exact .inl ⟨a1,a2,a3⟩
  .injection h1 with a1 a2 a3
   subst a3;refine .inr ⟨g,a1,?_,h4⟩;rw[aA]at h3;omega
 have s1:(n:Int)<=(n:Int):=ls
 clear S B2 ea hi lC kH lM;have HC:A=none/\n=0/\c=0\/(∃g,A=some ⟨g,0,none⟩/\c=n/\c<=sh)\/∃g,A=some ⟨g,0,none⟩/\¬c=n/\n<=c/\c<=sh:=by
  rcases HC with h|⟨g,h1,h2,h3⟩
  .exact .inl h
  .by_cases hc:c=n
   .exact .inr (.inl ⟨g,h1,hc,h3⟩)
   .exact .inr (.inr ⟨g,h1,hc,h2,h3⟩)
 rcases HC with⟨rfl,rfl,rfl⟩|⟨g,rfl,rfl,hc2⟩|⟨g,rfl,Oz,Ku,hc2⟩
 all_goals
  (try have hc1I:(n:Int)<=(c:Int):=ls)
  go_in;go_wp2_with fail;rw[EA.o];go_wp2;go_ret;exact⟨A',c',by first|rfl|simp,by rw[jf];simpa [aL]using S2.o,o2.o,f2.o⟩
def Hx{w:BY}{g:Nat}{t:us}{cs:Array By}(B:aM w g t cs):w.shape? g=some (t,cs.size):=by
 obtain⟨lo,hi,h,_⟩:=B;unfold World.shape?;rw[h]
def sz_ent(w:BY):(Go.sizeOf 111).run prog w=.ok 3 w:=by
 obtain⟨i0,hi,lC,kH,lM⟩:=info_parts ux;simp[sizeOf,typeInfo,hi,kH]
def MI{w:BY}{g1 g2:Nat}{t1 t2:us}{c1 c2:Array By}(B1:aM w g1 t1 c1)(B2:aM w g2 t2 c2)(fy:g1≠g2)(h0:c2.size≠0)(hc:c1.size≠0)(hz:w.frozen? ⟨g1,c1.size,none⟩=false)(o2 la ca lb cb:Nat):
  (callFunc 125 #[U3 (lc g1) la ca,U3 (some ⟨g2,o2,none⟩) lb cb]).run prog w=.ok (.value (WF false)) w:=by
 rw[run_callFunc_extern func125 pm pm pm (e:=Extern.SlicesOverlaps.overlaps #[108,108] #[4]) pm,
  Lib.run_overlaps_apart w 108 4 111 underlying108 3 sz_ent ⟨g1,0,none⟩ ⟨g2,o2,none⟩ la ca lb cb fy t1 t2 c1.size c2.size (Hx B1) (Hx B2) h0 (B1.frozen 0 ls) hz]
 rfl
def JN{w:BY}{A:Option Addr}{n c:Nat}{l:List E}(S:bm w 111 3 (U3 A n c) n (aL l))(e:E){g2 cc:Nat}(B2:aM w g2 111 e.cells.toArray)(hn:n<=100000)(hg:g2∉ak (U3 A n c))(i:Nat)(hi:i<n)(hf:w.frozen? ⟨g2,3,none⟩=false)(hc:n+1<=c):
  io prog 74 #[U3 A n c,(i:Nat),U3 (lc g2) 1 cc] w λr w'=> ∃A' c',r=fd (U3 A' (n+1) c')/\bm w' 111 3 (U3 A' (n+1) c') (n+1) (aL (l.insertIdx i e))/\ah (ak (U3 A n c)) w w'/\∀x∈ak (U3 A' (n+1) c'),x∈ak (U3 A n c)\/w.heap.size<=x:=by
 obtain⟨g,cap,rest,hv,BG,hcn,Bg⟩:=S.form ls ls;simp only[Value.slice.injEq,true_and]at hv;obtain⟨rfl,rfl⟩:=hv;have rS:c<=sh:=by obtain⟨_,_,_,_,h⟩:=S.ya;exact h
 have wM:l.length=n:=by have:=S.1;rw[aA]at this;omega
 have pD:=xh wM;have Xm:=g9 (rest.length=c*3-n*3) (by rw[aA,wM]at Bg;omega);have BD:=xh BG;have BE:=xh B2;have fy:g2≠g:=λh=>hg (by simp[ak,h]);have HCM:=xh rS;have FW:=xh (show(l.insertIdx i e).length=n+1 from by rw[I1,wM,g8]);unfold sh at rS;clear S wM Bg;have s1:¬(i:Int)=(n:Int):=ls
 have s2:(i:Int)<=(n:Int):=ls
 have s3:(i:Int)<=(c:Int):=ls
 have s4:¬c=i:=ls
 have s8:U6.wrap ((i:Int)+1)=(i:Int)+1:=d9;have s9:U6.wrap ((n:Int)+1)=(n:Int)+1:=d9;have s10:((i:Int)+1).toNat=i+1:=ls
 have s11:((n:Int)+1).toNat=n+1:=ls
 have s12:(0:Int)<=(i:Int)+1:=ls
 have s13:(0:Int)<=(n:Int)+1:=ls
 have s14:(i:Int)+1<=(n:Int)+1:=ls
 have s15:(i:Int)<=(n:Int)+1:=ls
 have VJ:=xh (show ∀j v,(aL (l.drop i))[j]?=some v->w.drew.cell? ((⟨g,i*3,none⟩:Addr).add j)=some v from λj v hv=>by
  rw[jq];refine(BD.o.drew.cell _).trans ?_;rw[<-nK,iu]at hv;rw[dr,bX (aW.1 hv).1,hv])
 have hov:=λla ca lb cb=>MI (w:=w) B2 BG fy (by simp[aA];have:=pD.o;omega) (by show 3≠0;decide) (by rw[show e.cells.toArray.size=3 from rfl];exact hf) ((i+1)*3) la ca lb cb;have s16:(n:Int)+1<=(c:Int):=ls
 have s17:¬(c:Int)<(n:Int)+1:=ls
 have s18:¬c=i+1:=ls
 have s19:(i:Int)+1<=(c:Int):=ls
 clear B2 BG hf hg;go_in;go_wp2_with (simp only[hov]);refine kw (λ_=>True) (trivial) (λaC=>?_);refine dj [(0,69),(1,70),(2,71),(3,72),(4,73),(5,74),(6,75),(7,76)] ?_
 iterate 8 refine bJ ?_
 refine dV 8 77 λK hK=>?_;go_simp;obtain⟨w2,ea,B3,oa⟩:=xI (P:=prog) BD.o.drew 108 3 111 3 ((i+1)*3) (n-i) (c-(i+1)) ⟨g,i*3,none⟩ (n+1-i) (c-i) (aL (l.drop i)) underlying108 pX (by rw[aA,ef,pD.o,show Nat.min (n+1-i) (n-i)=n-i from by simp only[Nat.min_def];split<;>omega]) VJ.o (by rw[aA,ef,bC,aA,pD.o,Xm.o];omega) (mM _);have EA:=xh ea;have B3:=xh B3
 have OA:=xh oa;clear ea oa;rw[EA.o];go_simp;refine ip hK ?_;refine jp ?_ _;have BE3:=BE.o.drew.only OA.o (by simpa using fy)
 obtain⟨w3,eb,B4,ob⟩:=xI (P:=prog) B3.o 108 3 111 3 (i*3) (n+1-i) (c-i) ⟨g2,0,none⟩ 1 cc e.cells underlying108 pX (by show 3=_;rw[show Nat.min 1 (n+1-i)=1 from by simp only[Nat.min_def];split<;>omega]) (bT (l:=e.cells) BE3 0 _ lw) (by rw[lB (by rw[aA,ef,bC,aA,pD.o,Xm.o];omega),bC,aA,pD.o,Xm.o];show i*3+3<=_;omega) (zo e)
 rw[Zy l e rest i (by rw[pD.o];omega) (by rw[Xm.o];omega)]at B4;have EB:=xh eb;have B4:=xh B4;have OB:=xh<|OA.o.trans ob;clear eb ob BE3;go_wp2_with fail;rw[EB.o];go_wp2;go_ret;exact⟨_,_,by first|rfl|simp,⟨by rw[aA,FW.o],.inr ⟨g,c,_,rfl,B4.o,by rw[aA,FW.o,ef,Xm.o];omega,HCM.o⟩⟩,by simpa [ak]using (ah.refl [g] w).drew.trans OB.o,λx hx=> .inl (by simpa [ak]using hx)⟩
noncomputable def JO(P:Program)(T U ty:us)(w:BY)(s x:By):Result By:=(Builtin.append_ #[T,U] ty #[s,x]).run P w
def VK(P:Program)(ρ:Operand->By)(dst:Option Tmp)(s x:Operand)(T U t:us)(p:String)(af:Array Edge)(g:Option (Nat×Bool))(w:BY):
  (execOp ρ {dst:=dst,op:= .call {callee:= .builtin .append,args:= #[s,x],argTypes:= #[T,U]},type:=t,pos:=p,after:=af,guard:=g}).run P w=(JO P T U t w (ρ s) (ρ x)).andThen λv w'=> .ok (.value v) w':=by
 simp[execOp,resolve,invoke,builtin,JO]
def MJ{w:BY}{g c:Nat}{l:List E}{rest:List By}(B:aM w g 111 (aL l++rest).toArray)(i k:Nat)(hi:i<=l.length)(hk:0<k)(hc:c<i+k)(hm:i+k<=1000000):
  ∃w' G zs,JO prog 108 3 108 w (U3 (lc g) i c) (k:Nat)= .ok (U3 (lc w.heap.size) (i+k) G) w'/\aM w' w.heap.size 111 (aL (l.take i)++zs).toArray/\zs.length=(G-i)*3/\i+k<=G/\G<=sh/\i7 w w':=by
 obtain⟨i0,Ko,lC,kH,lM⟩:=info_parts ux;have hold:(Builtin.firstCells i0.size i (U3 (lc g) i c)).run prog w.drew=.ok (aL (l.take i)).toArray w.drew:=by
  rw[kH];exact run_firstCells_some w.drew 3 i ⟨g,0,none⟩ i c (aL (l.take i)) (by rw[aA,bY];omega) (bT B.drew 0 _ (λj v hv=>by
   rw[bV,bX]
   .rw[<-zh,rP]at hv
    split at hv
    .exact hv
    .cases hv
   .have:=(aW.1 hv).1;rw[aA,bY]at this;rw[aA];omega))
 have h:=Lib.run_append_grow_zeros w 108 3 108 111 i0 _ U6 U6 underlying108 underlying3 Ko lC (some ⟨g,0,none⟩) i c (aL (l.take i)) hold k hk ls hc ls (by rw[lM];omega) (by rw[lM];exact growslice_fits ls ls);have hG:=grownCap_ge w (i+k) c 111;have hG2:=grownCap_le_maxLen w (i+k) c 111 (by unfold sh;omega);have hzc:∀m,(Builtin.zeroCells (Value.agg #[U7 ⟨#[]⟩,U7 ⟨#[]⟩,U5 U6 0]).cells m).size=m*3:=λm=>by
  simp[Builtin.zeroCells,Value.cells]
 generalize grownCap w (i+k) c 111=G at *;have hA:∀(a b:Array By),(aL (l.take i)).toArray++a++b=(aL (l.take i)++(a.toList++b.toList)).toArray:=λa b=>by
  apply rk.1;simp
 rw[hA]at h;have hzl:((Builtin.zeroCells (Value.agg #[U7 ⟨#[]⟩,U7 ⟨#[]⟩,U5 U6 0]).cells k).toList++(Builtin.zeroCells (Value.agg #[U7 ⟨#[]⟩,U7 ⟨#[]⟩,U5 U6 0]).cells (G-(i+k))).toList).length=(G-i)*3:=by
  rw[bC,Xs,Xs,hzc,hzc];omega
 generalize (Builtin.zeroCells (Value.agg #[U7 ⟨#[]⟩,U7 ⟨#[]⟩,U5 U6 0]).cells k).toList++(Builtin.zeroCells (Value.agg #[U7 ⟨#[]⟩,U7 ⟨#[]⟩,U5 U6 0]).cells (G-(i+k))).toList=ZS at *;refine⟨_,G,ZS,h,?_,hzl,hG,hG2,?_⟩
 .exact aM.new w.drew 111 _
 .exact(i5 w).drew.alloc (ai _) _
def Zz(l:List E)(e:E)(zs:List By)(i:Nat)(hi:i<l.length)(hz:(l.length+1-i)*3<=zs.length):
  putAt (putAt (aL (l.take i)++zs) (i*3) e.cells) ((i+1)*3) (aL (l.drop i))=aL (l.insertIdx i e)++zs.drop ((l.length+1-i)*3):=by
 have e0:e.cells.length=3:=rfl;have e2:(aL (l.take i)).length=i*3:=by rw[aA,bY];omega
 have e3:(aL (l.drop i)).length=(l.length-i)*3:=by rw[aA,ef]
 have a1:putAt (aL (l.take i)++zs) (i*3) e.cells=(aL (l.take i)++e.cells)++zs.drop 3:=by
  unfold putAt;rw[<-e2,tI,e0,<-jF,vj]
 have a2:(aL (l.take i)++e.cells).length=(i+1)*3:=by rw[bC,e2,e0];omega
 rw[a1,Cl e l i ls,jf,l8];have e4:zs.drop ((l.length+1-i)*3)=(zs.drop 3).drop ((l.length-i)*3):=by rw[jF];congr 1;omega
 unfold putAt;rw[<-a2,tI,<-jF,vj,e3,e4];simp only[cV]
end
section
attribute [local go_sem ↓] VK MG Zx
def JP{w:BY}{A:Option Addr}{n c:Nat}{l:List E}(S:bm w 111 3 (U3 A n c) n (aL l))(e:E){g2 cc:Nat}(B2:aM w g2 111 e.cells.toArray)(hn:n<=100000)(hg:g2∉ak (U3 A n c))(i:Nat)(hi:i<n)(hc:c<n+1):
  io prog 74 #[U3 A n c,(i:Nat),U3 (lc g2) 1 cc] w λr w'=> ∃A' c',r=fd (U3 A' (n+1) c')/\bm w' 111 3 (U3 A' (n+1) c') (n+1) (aL (l.insertIdx i e))/\ah (ak (U3 A n c)) w w'/\∀x∈ak (U3 A' (n+1) c'),x∈ak (U3 A n c)\/w.heap.size<=x:=by
 obtain⟨g,cap,rest,hv,BG,hcn,Bg⟩:=S.form ls ls;simp only[Value.slice.injEq,true_and]at hv;obtain⟨rfl,rfl⟩:=hv;have rS:c<=sh:=by obtain⟨_,_,_,_,h⟩:=S.ya;exact h
 have wM:l.length=n:=by have:=S.1;rw[aA]at this;omega
 have pD:=xh wM;have Xm:=g9 (rest.length=c*3-n*3) (by rw[aA,wM]at Bg;omega);have BD:=xh BG;have BE:=xh B2;have fy:g2≠g:=λh=>hg (by simp[ak,h]);have HCM:=xh rS;have FW:=xh (show(l.insertIdx i e).length=n+1 from by rw[I1,wM,g8]);unfold sh at rS;clear S wM Bg;have s1:¬(i:Int)=(n:Int):=ls
 have s2:(i:Int)<=(n:Int):=ls
 have s3:(i:Int)<=(c:Int):=ls
 have s4:¬c=i:=ls
 have s8:U6.wrap ((i:Int)+1)=(i:Int)+1:=d9;have s9:U6.wrap ((n:Int)+1)=(n:Int)+1:=d9;have s10:((i:Int)+1).toNat=i+1:=ls
 have s11:((n:Int)+1).toNat=n+1:=ls
 have s12:(0:Int)<=(i:Int)+1:=ls
 have s13:(0:Int)<=(n:Int)+1:=ls
 have s14:(i:Int)+1<=(n:Int)+1:=ls
 have s15:(i:Int)<=(n:Int)+1:=ls
 have VJ:=xh (show ∀W,aM W g 111 (aL l++rest).toArray->∀j v,(aL (l.drop i))[j]?=some v->W.cell? ((⟨g,i*3,none⟩:Addr).add j)=some v from λW BW j v hv=>by
  rw[jq];refine(BW.cell _).trans ?_;rw[<-nK,iu]at hv;rw[dr,bX (aW.1 hv).1,hv])
 obtain⟨w2,G,zs,ea,B3,hz,hG,hG2,da⟩:=MJ (c:=c) BG i (n+1-i) (by rw[pD.o];omega) ls ls ls;rw[show i+(n+1-i)=n+1 by omega]at ea hG;have EA:=xh ea;have B3:=xh B3;have HZ:=xh hz;have QR:=xh da;have BE2:=xh<|BE.o.below da BE.o.lt;have BG2:=xh<|BD.o.below da BD.o.lt;have HGW:=g9 (g<w.heap.size/\g2<w.heap.size) ⟨BD.o.lt,BE.o.lt⟩;have s17:(c:Int)<(n:Int)+1:=ls
 have s20:(n:Int)+1-(i:Int)=((n+1-i:Nat):Int):=ls
 have s21:U6.wrap (((n+1-i:Nat):Int))=((n+1-i:Nat):Int):=d9;have s22:¬G=i:=ls
 have s23:¬G=i+1:=ls
 have s24:(n:Int)+1<=(G:Int):=ls
 have s25:(i:Int)<=(G:Int):=ls
 have s26:(i:Int)+1<=(G:Int):=ls
 unfold sh at hG2;have HG2:=xh hG2;clear B2 BG hg ea hz da;go_in;go_wp2_with fail;rw[EA.o]
 obtain⟨w3,eb,B4,oa⟩:=xI (P:=prog) B3.o 108 3 111 3 (i*3) (n+1-i) (G-i) ⟨g2,0,none⟩ 1 cc e.cells underlying108 pX (by show 3=_;rw[show Nat.min 1 (n+1-i)=1 from by simp only[Nat.min_def];split<;>omega]) (bT (l:=e.cells) BE2.o 0 _ lw) (by rw[bC,aA,bY,pD.o,HZ.o];show i*3+3<=_;omega) (zo e);have EB:=xh eb;have B4:=xh B4;have HBG:=xh<|BG2.o.only oa (by simp;have:=HGW.o;omega)
 have OA:=xh oa;have HFT:=xh (show(i+1)*3+(aL (l.drop i)).length<=(putAt (aL (l.take i)++zs) (i*3) e.cells).length from by
  rw[lB (by rw[bC,aA,bY,pD.o,HZ.o];show i*3+3<=_;omega),bC,aA,aA,bY,ef,pD.o,HZ.o];omega)
 clear eb oa;go_wp2_with fail;rw[EB.o];go_wp2;refine kw (λ_=>True) (trivial) (λaC=>?_);refine dj [(0,46),(1,47),(2,48),(3,49),(4,50),(5,51),(6,52),(7,53)] ?_
 iterate 8 refine bJ ?_
 refine dV 8 54 λK hK=>?_;go_simp;obtain⟨w4,eb,B5,ob⟩:=xI (P:=prog) B4.o.drew 108 3 111 3 ((i+1)*3) (n-i) (G-(i+1)) ⟨g,i*3,none⟩ (n-i) (c-i) (aL (l.drop i)) underlying108 pX (by rw[aA,ef,pD.o,show Nat.min (n-i) (n-i)=n-i from Nat.min_self _]) (VJ.o _ HBG.o.drew) HFT.o (mM _);have EB:=xh eb;have B5:=xh B5;have OB:=xh ob;clear eb ob;rw[EB.o];go_simp;refine ip hK ?_
 refine jp ?_ _;have B6:=B5.o;rw[Zz l e zs i (by rw[pD.o];omega) (by rw[pD.o,HZ.o];omega)]at B6;have B6:=xh B6;have OC:=xh<|QR.o.mono (ai _);go_wp2;go_ret;refine⟨_,_,by first|rfl|simp,⟨by rw[aA,FW.o],.inr ⟨w.heap.size,G,_,rfl,B6.o,by rw[aA,FW.o,ef,HZ.o,pD.o];omega,HG2.o⟩⟩,?_,λx hx=> .inr (by simp[ak]at hx;omega)⟩
 have o4:=((ah.refl [w.heap.size] w3).drew).trans OB.o;exact((ah.aj (S:=[]) QR.o).bj (OA.o.trans o4) (λx hx dP=>by simp at hx;omega)).mono (λx hx _=>by simp at hx)
end
attribute [local go_sem ↓] bP MG Zx
def AE{w:BY}{A:Option Addr}{n c:Nat}{l:List E}(S:bm w 111 3 (U3 A n c) n (aL l))(e:E){g2 cc:Nat}(B2:aM w g2 111 e.cells.toArray)(hn:n<=100000)(hg:g2∉ak (U3 A n c))(i:Nat)(hi:i<=n)(hf:w.frozen? ⟨g2,3,none⟩=false):
  io prog 74 #[U3 A n c,(i:Nat),U3 (lc g2) 1 cc] w λr w'=> ∃A' c',r=fd (U3 A' (n+1) c')/\bm w' 111 3 (U3 A' (n+1) c') (n+1) (aL (l.insertIdx i e))/\ah (ak (U3 A n c)) w w'/\∀x∈ak (U3 A' (n+1) c'),x∈ak (U3 A n c)\/w.heap.size<=x:=by
 have hl:=S.1;rw[aA]at hl
 rcases fo i n with h|h
 .rcases fo c (n+1)with h1|h1
  .exact JP S e B2 hn hg i h h1
  .exact JN S e B2 hn hg i h hf h1
 .obtain rfl:i=n:=ls
  have:=MH S e (cc:=cc) B2 hn
  rwa [show l++[e]=l.insertIdx i e from by rw[Cl e l i ls,cR ls,lT ls]]at this
def Q0{w:BY}{A:Option Addr}{n c:Nat}{l:List E}(S:bm w 111 3 (U3 A n c) n (aL l))(hn:n<=100000)(h0:0<n):
  io prog 217 #[U3 A n c] w λr w'=> ∃g c',r=fd (U3 (lc g) n c')/\bm w' 111 3 (U3 (lc g) n c') n (aL l)/\i7 w w'/\w.heap.size<=g:=by
 obtain⟨g,cap,rest,hv,BG,hcn,Bg⟩:=S.form h0 ls;simp only[Value.slice.injEq,true_and]at hv;obtain⟨rfl,rfl⟩:=hv;obtain⟨i0,hi,lC,kH,lM⟩:=info_parts ux;have hl:=S.1;rw[aA]at hl;have BN:=aM.new w 111 #[];have S0:bm (w.alloc (Pi #[] 111)) 111 3 (U3 (lc w.heap.size) 0 0) 0 []:=⟨rfl,.inr ⟨w.heap.size,0,[],rfl,BN,rfl,by unfold sh;omega⟩⟩;have BG2:=BG.alloc (Pi #[] 111)
 obtain⟨v',w',ea,S2,o2,f2⟩:=eu (P:=prog) S0 108 108 i0 _ 40 underlying108 hi lC kH lM rfl ls ⟨g,0,none⟩ n c (aL l) (by rw[aA];exact hl) (bT BG2 0 _ (λj v hj=>by rw[bV,bX (aW.1 hj).1];exact hj)) (mM l) (by unfold sh;omega) ls;rw[dD,bV]at S2;obtain⟨gg,cc,_,rfl,_,_⟩:=S2.form h0 ls
 have EA:=g9 (eM prog 108 108 (w.alloc (Pi #[] 111)) (U3 (lc w.heap.size) 0 0) (U3 (lc g) n c)=_) ea;have Ze:w.heap.size<=gg:=by
  rcases f2 gg (by simp[ak])with h|h
  .simp[ak]at h;omega
  .simp at h;omega
 have hb:i7 w w':=((i5 w).alloc (ai _) _).trans (o2.bI lw (λx hx=>by simp[ak]at hx;omega));have S2:=xh S2;have hb:=xh hb;have Ze:=xh Ze;have HE:=Lib.run_eql_slice_nil (P:=prog) w 108 111 (some ⟨g,0,none⟩) n c 0 0 underlying108;clear BG BG2 BN S0 S ea o2 f2 hi lC kH lM hl Bg;go_in;go_wp2_with fail;rw[EA.o];go_wp2;go_ret
 exact⟨gg,cc,by first|rfl|simp,S2.o,hb.o,Ze.o⟩
end Nd
end
namespace Sh
open Go.RowKit Pk Dk Pg
open Nd (E aL bQ aJ aP dm)
variable{w:BY}
def rH(e:Int):Int:=if e=3\/e=6 then 14 else e
def QS.aT(q:QS)(p:Int):QS×Bool×List E×Int:=
 if(q.cF p).2.2≠0 then((q.cF p).1,false,[],rH (q.cF p).2.2)
 else((q.cF p).1,(aJ (q.cF p).2.1.data.toList).1,(aJ (q.cF p).2.1.data.toList).2.1,rH (aJ (q.cF p).2.1.data.toList).2.2)
def blank(leaf:Bool)(l:List E):List E:=match leaf,l with
 |false,e::r=>{e with key:=⟨#[]⟩}::r
 |_,l=>l
def bM(leaf:Bool)(l:List E):UV×Int:=aP leaf (blank leaf l)
def QS.bg(q:QS)(p:Int)(leaf:Bool)(l:List E):QS×Int:=if(bM leaf l).2≠0 then(q,(bM leaf l).2)else q.dh p ⟨(bM leaf l).1.toArray⟩
def QS.cu(q:QS)(leaf:Bool)(l:List E):QS×Int×Int:=if(bM leaf l).2≠0 then(q,0,(bM leaf l).2)else q.bE (bM leaf l).1
def tp(b:Nat):By:= .pointer (some ⟨b,0,none⟩)
section
variable{w w':BY}{tb:Nat}{I:Ix}{F S:List Nat}{q q':QS}{n K:Nat}
end
def nu(l:List E):(aL l).length=l.length*3:=Nd.aA l
def Ez(e:Int)(w:BY):io prog 112 #[e] w λr w'=>r=fd (U5 U6 (rH e))/\w=w':=by
 unfold rH
 by_cases h3:e=3
 .subst h3;go_in;go_wp2;go_ret;exact bz rfl
 .have q3:(e==3)=false:=i4 h3
  by_cases h6:e=6
  .subst h6;go_in;go_wp2;go_ret;exact bz rfl
  .have q6:(e==6)=false:=i4 h6
   rw[ge];go_in;go_wp2;go_ret;exact bz rfl
def JQ{g:Nat}{b b':Bool}{v v':By}(B:aM w g 118 #[WF b,v]):
  aM ((w.setCell ⟨g,0,none⟩ (WF b')).setCell ⟨g,1,none⟩ v') g 118 #[WF b',v']/\ah [g] w ((w.setCell ⟨g,0,none⟩ (WF b')).setCell ⟨g,1,none⟩ v')/\
   w.cell? (lc g)=some (WF b)/\w.cell? ⟨g,1,none⟩=some v/\w.frozen? ⟨g,0,none⟩=false/\w.frozen? ⟨g,1,none⟩=false:=
 ⟨(B.ct 0 _).ct 1 _,((ah.refl _ _).setCell lw _).setCell lw _,B.ae rfl,B.ae rfl,B.frozen 0 lw,B.frozen 1 lw⟩
def ED(leaf:Bool)(A:Option Addr)(n c:Nat)(l:List E)(S:bm w 111 3 (U3 A n c) n (aL l))(hn:n<=1000):
  io prog 175 #[bQ leaf A n c] w λe w'=>e=fd (.tuple #[U7 ⟨(bM leaf l).1.toArray⟩,U5 U6 (bM leaf l).2])/\i7 w w':=by
 have O0:=xh<|i6 w (Pi #[WF leaf,U3 A n c] 118);have B0:=xh<|aM.new w 118 #[WF leaf,U3 A n c];have S0:=xh<|S.below O0.o;have x0:=B0.ap 0;have x1:=B0.ap 1;have hl:=S.1;rw[nu]at hl
 by_cases hc:leaf=false/\0<n
 .obtain⟨rfl,h0⟩:=hc;obtain⟨e,r,rfl⟩:∃e r,l=e::r:=by
   cases l with
   |nil=>simp at hl;omega
   |cons e r=>exact⟨e,r,rfl⟩
  have KC:=xh (λ(W:BY) (hb:Below (w.alloc (Pi #[WF false,U3 A n c] 118)).heap.size (w.alloc (Pi #[WF false,U3 A n c] 118)) W)=>Nd.Q0 (S0.o.below hb) ls h0);have KP:=xh (λ(W:BY) (g c1:Nat) (h:bm W 111 3 (U3 (lc g) n c1) n (aL (blank false (e::r))))=>Nd.Ex (w:=W) false (some ⟨g,0,none⟩) n c1 (blank false (e::r)) (Nd.bm.aL h).2 hn);unfold bM;generalize aP false (blank false (e::r))=R at *
  have h0I:(0:Int)<(n:Int):=ls
  have HN:=xh h0;clear S hl;unfold bQ at *;go_in;go_wp2_with fail;go_call (KC.o _ (Below.refl _ _)) as e2 w1 ⟨g,c1,rfl,S1,bu,hg⟩;have B1:=xh<|B0.o.below bu B0.o.lt;have O1:=xh<|aE O0.o bu;have fy:g≠w.heap.size:=by simp at hg;omega
  obtain⟨rest,BG,Vv,_,ZD⟩:=S1.ya;have y0:=B1.ap 0;have y1:=B1.ap 1;have y2:=B1.o.frozen 1 lw;have B2:=xh<|B1.o.ct 1 (U3 (lc g) n c1);have BG2:=BG.bh (p:=⟨w.heap.size,1,none⟩) (by simpa using fy) (U3 (lc g) n c1);have z0:=BG2.ae (i:=0) (v:=U7 e.key) rfl;have z1:=BG2.frozen 0 (by simp[Nd.aL,E.cells]);have BG3:=BG2.ct 0 (U7 ⟨#[]⟩)
  have S3:=xh (show bm ((w1.setCell ⟨w.heap.size,1,none⟩ (U3 (lc g) n c1)).setCell ⟨g,0,none⟩ (U7 ⟨#[]⟩)) 111 3 (U3 (lc g) n c1) n (aL (blank false (e::r)))from
   ⟨by have:=S1.1;rw[nu]at this ⊢;simpa [blank]using this,.inr ⟨g,c1,rest,rfl,by simpa [blank,Nd.aL,E.cells]using BG3,by rw[nu]at Vv ⊢;simpa [blank]using Vv,ZD⟩⟩)
  have B3:=xh<|B2.o.bh (p:=⟨g,0,none⟩) (by simpa using λh=>fy h.symm) (U7 ⟨#[]⟩);have u1:=B2.ap 1;have v0:=B3.ap 0;have v1:=B3.ap 1;have O3:=xh (show i7 w ((w1.setCell ⟨w.heap.size,1,none⟩ (U3 (lc g) n c1)).setCell ⟨g,0,none⟩ (U7 ⟨#[]⟩))from
   ((ah.aj (S:=[w.heap.size,g]) O1.o).bj (((ah.refl [w.heap.size,g] w1).setCell lw _).setCell lw _) (λx hx _=>hx)).bI (ai _) (λx hx=>by simp at hx hg;omega))
  clear BG BG2 BG3 S1 bu Vv ZD hg;go_wp2_with fail;go_call (KP.o _ g c1 S3.o) as e3 w4 ⟨rfl,iZ⟩;have O4:=xh<|aE O3.o iZ;clear iZ;go_wp2;go_ret2;exact bz O4.o
 .have uY:blank leaf l=l:=by
   unfold blank
   split
   .exfalso;refine hc ⟨rfl,?_⟩;simp at hl;omega
   .rfl
  have KP:=xh<|Nd.Ex leaf A n c l (Nd.bm.aL S0.o).2 hn;unfold bM;rw[uY];generalize aP leaf l=R at *;clear S hl uY;unfold bQ at *
  cases leaf
  .obtain rfl:n=0:=by
    by_cases h:0<n
    .exact eq ⟨rfl,h⟩ hc
    .omega
   clear hc;go_in;go_wp2_with fail;go_call KP.o as e3 w4 ⟨rfl,iZ⟩;have O4:=xh<|aE O0.o iZ;clear iZ;go_wp2;go_ret2;exact bz O4.o
  .clear hc;go_in;go_wp2_with fail;go_call KP.o as e3 w4 ⟨rfl,iZ⟩;have O4:=xh<|aE O0.o iZ;clear iZ;go_wp2;go_ret2;exact bz O4.o
def MK(leaf:Bool)(l:List E):(bM leaf l).1.length<=232:=Nd.Az leaf _
def VL(leaf:Bool)(A:Option Addr)(m c:Nat)(l:List E)(S:bm w 111 3 (U3 A m c) m (aL l))(hm:m<=1000)(b:Bool)(hb:b=decide ((bM leaf l).2=0)):
  io prog 128 #[bQ leaf A m c] w λe w'=>e=fd (WF b)/\i7 w w':=by
 have O0:=xh<|i6 w (Pi #[WF leaf,U3 A m c] 118);have B0:=xh<|aM.new w 118 #[WF leaf,U3 A m c];have x0:=B0.ap 0;have x1:=B0.ap 1;have KL:=xh<|ED leaf A m c l (S.below O0.o) hm;generalize bM leaf l=R at *;obtain⟨R1,R2⟩:=R;dsimp only at *;clear S;unfold bQ at *
 by_cases he:R2=0
 .subst he;obtain rfl:b=true:=by rw[hb];rfl
  clear hb;go_in;go_wp2_with fail;go_call KL.o as e w1 ⟨rfl,bu⟩;have O1:=xh<|aE O0.o bu;clear bu;go_wp2;go_ret;exact bz O1.o
 .obtain rfl:b=false:=by rw[hb];simpa using he
  have kP:(R2==0)=false:=i4 he
  clear hb;go_in;go_wp2_with fail;go_call KL.o as e w1 ⟨rfl,bu⟩;have O1:=xh<|aE O0.o bu;clear bu;go_wp2;go_ret;exact bz O1.o
open Nd (E aL bQ aJ aP dm bw aY cg)
attribute [local go_sem ↓] bP
structure Step where
 au:Int
 leaf:Bool
 l:List E
 at_:Nat
structure SM where
 s:Step
 A:Option Addr
 c:Nat
def SM.v(x:SM):By:=U3 x.A x.s.l.length x.c
def SM.cells(x:SM):List By:=[U5 U6 x.s.au,WF x.s.leaf,x.v,U5 U6 (x.s.at_:Nat)]
section
variable{w w':BY}{b:Nat}{v:By}{L:List SM}{S:List Nat}
end
def TF:By->Nat
 |U3 _ n _=>n
 |_=>0
def iG(key:Nm):Nat->QS->Int->List Step->QS×List Step×Int
 |0,q,_,_=>(q,[],14)
 |m+1,q,p,out=>
  if(q.aT p).2.2.2≠0 then((q.aT p).1,[],(q.aT p).2.2.2)
  else if(q.aT p).2.1=true then((q.aT p).1,out++[⟨p,true,(q.aT p).2.2.1,0⟩],0)
  else if(q.aT p).2.2.1=[]then((q.aT p).1,[],14)
  else iG key m (q.aT p).1 ((q.aT p).2.2.1.getD (bw (q.aT p).2.2.1 key) Nd.E.zero).bh (out++[⟨p,false,(q.aT p).2.2.1,bw (q.aT p).2.2.1 key⟩])
def QS.cI(q:QS)(key:Nm):QS×List Step×Int:=iG key 16 q 0 []
def zp{l:List E}(h:l≠[])(key:Nm):bw l key<l.length:=by
 have hl:0<l.length:=I2.2 h;unfold bw;have hle:aY l key<=l.length:=qt
 split
 .rename_i hh;unfold cg at hh
  cases hx:l[aY l key]? with
  |none=>rw[hx]at hh;cases hh
  |some e=>exact(aW.1 hx).1
 .omega
def uy{e:Int}:rH e=0↔e=0:=by unfold rH;split<;>omega
def ny(w:BY)(o:Obj):(w.alloc o).heap.size=w.heap.size+1:=lw
def fX:∀L:List SM,(L.flatMap SM.cells).length=L.length*4
 |[]=>rfl
 |x::L=>by rw[jg,bC,fX L];simp[SM.cells];omega
def uz:∀{L:List SM} {k:Nat} {x:SM},L[k]?=some x->∀j,j<4->(L.flatMap SM.cells)[k*4+j]?=x.cells[j]?
 |[],_,_,h,_,_=>by simp at h
 |y::L,0,x,h,j,hj=>by
  simp only[CE,Option.some.injEq]at h;subst h;rw[jg,bX (by simp[SM.cells];omega),qA,bV]
 |y::L,k+1,x,h,j,hj=>by
  rw[yq]at h;rw[jg,eC (by simp[SM.cells];omega),show(k+1)*4+j-y.cells.length=k*4+j by simp[SM.cells];omega];exact uz h j hj
def VP:(prog.info? 120).map (λi=>(i.zero,i.size,i.bytes))=some (some (.agg #[U5 U6 0,WF false,U3 none 0 0,U5 U6 0]),4,48):=pm
def EE{w:BY}{v:By}{m:Nat}{L:List By}(S:bm w 120 4 v m L)(cs:List By)(Ov:cs.length=4)(h1:∀u∈cs,u.oneCell'=true)(hm:m<=100):
  ∃v' w',eM prog 114 114 (w.alloc (Pi cs.toArray 120)) v (U3 (lc w.heap.size) 1 1)= .ok v' w'/\bm w' 120 4 v' (m+1) (L++cs)/\ah (ak v) w w'/\(∀g∈ak v',g∈ak v\/w.heap.size<=g):=by
 obtain⟨i0,hi,lC,kH,lM⟩:=info_parts VP;obtain⟨v',w',h1,h2,h3,h4⟩:=eu (P:=prog) (S.alloc (Pi cs.toArray 120)) 114 114 i0 _ 48 underlying114 hi lC kH lM rfl ls
  ⟨w.heap.size,0,none⟩ 1 1 cs (by rw[Ov]) (bT (aM.new w 120 cs.toArray) 0 _ lw) h1 (by unfold sh;omega) ls
 exact⟨v',w',h1,h2,((ah.refl _ _).alloc _).bj h3 (λx hx _=>hx),λg hg=>(h4 g hg).imp id (λh=>by simp at h;omega)⟩
end Sh
namespace Sh
open Go.RowKit Pk Dk Pg
open Nd (E aL bQ aJ aP dm bw aY cg)
def QS.cC(q:QS)(x:E):QS×Nm×Int:=if x.bh<0 then(q,x.val,0)else((q.dA x.bh).1,⟨(q.dA x.bh).2.2.1.toArray⟩,rH (q.dA x.bh).2.2.2)
def QS.jY(q:QS)(x:E):QS×Int:=if x.bh<0 then(q,0)else((q.jX x.bh).1,rH (q.jX x.bh).2)
def QS.fU(q:QS)(key value:Nm):QS×E×Int:=if value.size<=40 then(q,⟨key,value,-1⟩,0)else((q.kE value.data.toList).1,⟨key,⟨#[]⟩,(q.kE value.data.toList).2.1⟩,(q.kE value.data.toList).2.2)
def zq(s:Step):Prop:=dm s.l s.leaf/\s.l.length<=57/\(s.leaf=false->s.at_<s.l.length)
def ZE{w:BY}{g:Nat}{a b a' b':Nm}{c c':Int}(B:aM w g 111 #[U7 a,U7 b,c]):
  aM (((w.setCell ⟨g,0,none⟩ (U7 a')).setCell ⟨g,1,none⟩ (U7 b')).setCell ⟨g,2,none⟩ c') g 111 #[U7 a',U7 b',c']/\ah [g] w (((w.setCell ⟨g,0,none⟩ (U7 a')).setCell ⟨g,1,none⟩ (U7 b')).setCell ⟨g,2,none⟩ c')/\
   w.cell? (lc g)=some (U7 a)/\w.cell? ⟨g,1,none⟩=some (U7 b)/\w.cell? ⟨g,2,none⟩=some (c:li)/\w.frozen? ⟨g,0,none⟩=false/\w.frozen? ⟨g,1,none⟩=false/\w.frozen? ⟨g,2,none⟩=false:=
 ⟨((B.ct 0 _).ct 1 _).ct 2 _,(((ah.refl _ _).setCell lw _).setCell lw _).setCell lw _,B.ae rfl,B.ae rfl,B.ae rfl,B.frozen 0 lw,B.frozen 1 lw,B.frozen 2 lw⟩
def EF{l:List E}{key:Nm}(h:cg l key=true):∃e,l[aY l key]?=some e:=by
 unfold cg at h
 cases hx:l[aY l key]? with
 |none=>rw[hx]at h;cases h
 |some e=>exact⟨e,rfl⟩
def eF(l:List Step):Step:=l.getLastD ⟨0,false,[],0⟩
def QS.gD(q:QS)(key:Nm):QS×Nm×Int:=
 if(q.cI key).2.2≠0 then((q.cI key).1,⟨#[]⟩,(q.cI key).2.2)
 else if cg (eF (q.cI key).2.1).l key=true then(q.cI key).1.cC ((eF (q.cI key).2.1).l.getD (aY (eF (q.cI key).2.1).l key) Nd.E.zero)
 else((q.cI key).1,⟨#[]⟩,9)
open Nd (E aL bQ aJ aP dm bw aY cg aZ)
def keyOf(l:List E):Nm:=(l.headD Nd.E.zero).key
def QS.lk(q:QS)(leaf:Bool)(la lb:List E):QS×Int:=
 if(q.cu leaf la).2.2≠0 then((q.cu leaf la).1,(q.cu leaf la).2.2)
 else if((q.cu leaf la).1.cu leaf lb).2.2≠0 then(((q.cu leaf la).1.cu leaf lb).1,((q.cu leaf la).1.cu leaf lb).2.2)
 else((q.cu leaf la).1.cu leaf lb).1.bg 0 false [⟨⟨#[]⟩,⟨#[]⟩,(q.cu leaf la).2.1⟩,⟨keyOf lb,⟨#[]⟩,((q.cu leaf la).1.cu leaf lb).2.1⟩]
variable{l:List E}
section
variable{w w':BY}{b:Nat}{v:By}{L:List SM}{I:Ix}{F S:List Nat}{q:QS}{n K:Nat}
end
def dX:Nat->List Step->QS->QS×Int
 |0,_,q=>(q,0)
 |_+1,[],q=>(q,0)
 |m+1,x::up,q=>
  if(q.bg x.au x.leaf x.l).2≠11\/(bM x.leaf x.l).2=0 then q.bg x.au x.leaf x.l
  else match up with
   |[]=>(q.bg x.au x.leaf x.l).1.lk x.leaf (x.l.take (aZ x.l)) (x.l.drop (aZ x.l))
   |y::up=>
    if((q.bg x.au x.leaf x.l).1.cu x.leaf (x.l.drop (aZ x.l))).2.2≠0 then(((q.bg x.au x.leaf x.l).1.cu x.leaf (x.l.drop (aZ x.l))).1,((q.bg x.au x.leaf x.l).1.cu x.leaf (x.l.drop (aZ x.l))).2.2)
    else if(((q.bg x.au x.leaf x.l).1.cu x.leaf (x.l.drop (aZ x.l))).1.bg x.au x.leaf (x.l.take (aZ x.l))).2≠0 then((q.bg x.au x.leaf x.l).1.cu x.leaf (x.l.drop (aZ x.l))).1.bg x.au x.leaf (x.l.take (aZ x.l))
    else dX m ({y with l:=y.l.insertIdx (y.at_+1) ⟨keyOf (x.l.drop (aZ x.l)),⟨#[]⟩,((q.bg x.au x.leaf x.l).1.cu x.leaf (x.l.drop (aZ x.l))).2.1⟩}::up)
     (((q.bg x.au x.leaf x.l).1.cu x.leaf (x.l.drop (aZ x.l))).1.bg x.au x.leaf (x.l.take (aZ x.l))).1
def ML(l:List E):Prop:=l.length<=90/\∀e∈l,e.key.size<=32/\e.val.size<=40
def MM(h:ML l):Nd.aw l<=100000:=by
 obtain⟨h1,h2⟩:=h;have:∀l:List E,(∀e∈l,e.key.size<=32/\e.val.size<=40)->Nd.aw l<=79*l.length:=λl h=>by
  induction l with
  |nil=>simp[Nd.aw]
  |cons e l ih=>
   have h1:=h e lw;have h3:=ih (λx hx=>h x (by simp[hx]));unfold Nd.aw at *;simp only[iA,mi,jh];omega
 have:=this l h2;omega
def ZF{leaf:Bool}(h:(bM leaf l).2≠0)(h2:(bM leaf l).2≠2)(hl:ML l):2<=l.length:=by
 unfold bM aP at h h2
 split at h2
 .rename_i hm;rw[U8 hm]at h
  split at h2
  .rename_i hr;rw[U8 hr]at h;exact eq rfl h
  .rename_i hr
   rcases l with _|⟨e,_|⟨e2,r⟩⟩
   .exfalso;apply hr
    cases leaf<;>decide
   .exfalso;apply hr;have hh:=hl.2 e lw;rw[Nd.Et];have:Nd.aw (blank leaf [e])<=79:=by
     have h0:(⟨#[]⟩:Nm).size=0:=rfl
     cases leaf
     .show Nd.aw [{e with key:=⟨#[]⟩}]<=79;simp only[Nd.aw,iA,tD,mi,List.sum_nil,h0];omega
     .show Nd.aw [e]<=79;simp only[Nd.aw,iA,tD,mi,List.sum_nil];omega
    omega
   .simp
 .exact eq rfl h2
structure Fit(s:Step):Prop where
 l:ML s.l
 n:s.l.length<=80
 a:s.at_<s.l.length
def uA{l:List E}{leaf:Bool}(h:dm l leaf):∀e∈l,e.key.size<=32/\e.val.size<=40:=λe he=>by
 obtain⟨i,hi,rfl⟩:=List.mem_iff_getElem.1 he;have:=(h i hi l[i] (aQ hi)).1;exact⟨this.1,this.2.1⟩
def zq.light{s:Step}(h:zq s):ML s.l:=⟨by have:=h.2.1;omega,uA h.1⟩
def zq.fit{s:Step}(h:zq s)(hl:s.leaf=false):Fit s:=⟨h.light,by have:=h.2.1;omega,h.2.2 hl⟩
def pY(l:List E)(key:Nm):List E:=if cg l key=true then l.eraseIdx (aY l key)else l
def QS.hX(q:QS)(l:List E)(key:Nm):QS×Int:=if cg l key=true then q.jY (l.getD (aY l key) Nd.E.zero)else(q,0)
def QS.rI(q:QS)(key value:Nm)(x:Step)(i:Nat)(up:List Step):QS×Int:=
 if(q.fU key value).2.2≠0 then((q.fU key value).1,(q.fU key value).2.2)
 else dX (up.length+1) ({x with l:=x.l.insertIdx i (q.fU key value).2.1}::up) (q.fU key value).1
def QS.fC(q:QS)(key value:Nm):QS×Int:=
 if 32<key.size\/1024<value.size then(q,4)
 else if(q.cI key).2.2≠0 then((q.cI key).1,(q.cI key).2.2)
 else if((q.cI key).1.hX (eF (q.cI key).2.1).l key).2≠0 then(q.cI key).1.hX (eF (q.cI key).2.1).l key
 else((q.cI key).1.hX (eF (q.cI key).2.1).l key).1.rI key value {eF (q.cI key).2.1 with l:=pY (eF (q.cI key).2.1).l key} (aY (eF (q.cI key).2.1).l key) (q.cI key).2.1.dropLast.reverse
def Wp.vw_lt{q:QS}{n K:Nat}(h:Wp q n K){j:Int}(h0:(q.vw j).2=0):0<=j/\j<512:=by
 refine⟨vw_pos h0,?_⟩;have hr:(q.a.aO j).2=0:=by
  rcases jA q j with ho|⟨i,f,hi,rfl,hp⟩
  .rw[fQ ho]at h0;exact h0
  .exact h.V.ex f (ay hi) hp
 have:=pS (xu.1 hr);have:=h.H.nl;omega
def fY:Nat->QS->Bool->List E->QS×Int
 |0,q,_,_=>(q,0)
 |m+1,q,leaf,l=>
  if leaf=false/\l.length=1 then
   if(q.aT (l.getD 0 Nd.E.zero).bh).2.2.2≠0 then((q.aT (l.getD 0 Nd.E.zero).bh).1,(q.aT (l.getD 0 Nd.E.zero).bh).2.2.2)
   else if((q.aT (l.getD 0 Nd.E.zero).bh).1.aF (l.getD 0 Nd.E.zero).bh).2≠0 then(q.aT (l.getD 0 Nd.E.zero).bh).1.aF (l.getD 0 Nd.E.zero).bh
   else fY m ((q.aT (l.getD 0 Nd.E.zero).bh).1.aF (l.getD 0 Nd.E.zero).bh).1 (q.aT (l.getD 0 Nd.E.zero).bh).2.1 (q.aT (l.getD 0 Nd.E.zero).bh).2.2.1
  else if l=[]then q.bg 0 true []else q.bg 0 leaf l
def QS.kx(q:QS)(leaf:Bool)(l:List E):QS×Int:=fY 600 q leaf l
def cU:List Step->QS->QS×Int
 |[],q=>(q,0)
 |[x],q=>if x.leaf=true then q.bg x.au x.leaf x.l else q.kx x.leaf x.l
 |x::y::up,q=>
  if x.l=[]then
   if(q.aF x.au).2≠0 then q.aF x.au
   else cU ({y with l:=y.l.eraseIdx y.at_}::up) (q.aF x.au).1
  else q.bg x.au x.leaf x.l
 termination_by l=>l.length
def sR(x:Step)(q:QS):cU [x] q=if x.leaf=true then q.bg x.au x.leaf x.l else q.kx x.leaf x.l:=by
 unfold cU;rfl
def sS(x y:Step)(up:List Step)(q:QS):cU (x::y::up) q=if x.l=[]then
   if(q.aF x.au).2≠0 then q.aF x.au
   else cU ({y with l:=y.l.eraseIdx y.at_}::up) (q.aF x.au).1
  else q.bg x.au x.leaf x.l:=by
 conv=>lhs;unfold cU
def ZG(A:Option Addr)(m c m' c':Nat):ak (U3 A m c)=ak (U3 A m' c'):=by cases A<;>rfl
def QS.fR(q:QS)(key:Nm):QS×Int:=
 if(q.cI key).2.2≠0 then((q.cI key).1,(q.cI key).2.2)
 else if cg (eF (q.cI key).2.1).l key=false then((q.cI key).1,9)
 else if((q.cI key).1.hX (eF (q.cI key).2.1).l key).2≠0 then(q.cI key).1.hX (eF (q.cI key).2.1).l key
 else cU ({eF (q.cI key).2.1 with l:=pY (eF (q.cI key).2.1).l key}::(q.cI key).2.1.dropLast.reverse) ((q.cI key).1.hX (eF (q.cI key).2.1).l key).1
def jZ:UV:=(aP true []).1
def QS.kl(q:QS):QS×Int:=if q.a.jW.length=0 then((q.bE jZ).1,(q.bE jZ).2.2)else(q,0)
def QS.dJ(q:QS):QS×Int:=if q.kl.2≠0 then q.kl else((q.kl.1.aT 0).1,(q.kl.1.aT 0).2.2.2)
structure Wk(σ:Type) where
 q:QS
 seen:Nat
 s:σ
 more:Bool
 e:Int
section
variable{σ:Type}
def mO(fr:Nm)(leaf:Bool)(first i:Nat)(x:E):Bool:=decide (i<first) || (leaf && Op.bytesLess x.key.toList fr.toList)
def lL(til:Nm)(leaf:Bool)(i:Nat)(x:E):Bool:= !(til.toList==[]) && !Op.bytesLess x.key.toList til.toList && (leaf || decide (0<i))
def fP(rec:QS->Nat->σ->Int->Wk σ)(step:E->σ->σ×Bool)(fr til:Nm)(leaf:Bool)(first:Nat):Nat->List E->QS->Nat->σ->Wk σ
 |_,[],q,seen,s=>⟨q,seen,s,true,0⟩
 |i,x::l,q,seen,s=>
  if mO fr leaf first i x=true then fP rec step fr til leaf first (i+1) l q seen s
  else if lL til leaf i x=true then⟨q,seen,s,false,0⟩
  else if leaf=true then
   if(step x s).2=true then fP rec step fr til leaf first (i+1) l q seen (step x s).1
   else⟨q,seen,(step x s).1,false,0⟩
  else
   if(rec q seen s x.bh).more=true/\(rec q seen s x.bh).e=0 then fP rec step fr til leaf first (i+1) l (rec q seen s x.bh).q (rec q seen s x.bh).seen (rec q seen s x.bh).s
   else rec q seen s x.bh
def et(step:E->σ->σ×Bool)(fr til:Nm):Nat->QS->Nat->σ->Int->Wk σ
 |0,q,seen,s,_=>⟨q,seen+1,s,false,14⟩
 |d+1,q,seen,s,p=>
  if 512<seen+1 then⟨q,seen+1,s,false,14⟩
  else if(q.aT p).2.2.2≠0 then⟨(q.aT p).1,seen+1,s,false,(q.aT p).2.2.2⟩
  else fP (et step fr til d) step fr til (q.aT p).2.1 (if(q.aT p).2.1=true then 0 else bw (q.aT p).2.2.1 fr) 0 (q.aT p).2.2.1 (q.aT p).1 (seen+1) s
def QS.cD(q:QS)(step:E->σ->σ×Bool)(fr til:Nm)(s:σ):Wk σ:=et step fr til 16 q 0 s 0
structure Vis(fn:Nat)(fH:Array By)(step:E->σ->σ×Bool)(jP:σ->Nat)(Inv:BY->σ->List Nat->Prop):Prop where
 call:∀(W:BY) (s:σ) (G:List Nat) (x:E),Inv W s G->jP s<=100000->x.key.size<=32->io prog fn (#[x.agg]++fH) W λe w'=>e=fd (WF (step x s).2)/\∃G',Inv w' (step x s).1 G'/\ah G W w'/\∀g∈G',g∈G\/W.heap.size<=g
 rC:∀(W w':BY) (s:σ) (G S:List Nat),Inv W s G->ah S W w'->(∀g∈G,g∉S)->Inv w' s G
 lt:∀(W:BY) (s:σ) (G:List Nat),Inv W s G->∀g∈G,g<W.heap.size
 ent:∀(args:Array By) (W:BY),Sem.run prog (callFunc fn args) W=Result.ok (.enter fn args) W
 one:∀(x:E) (s:σ),jP (step x s).1<=jP s+1
end
structure Ev where
 sB:Nat
 tB:Nat
 fB:Nat
 oB:Nat
 dB:Nat
 kB:Nat
def Ev.JR(v:Ev):List Nat:=[v.sB,v.tB,v.fB,v.oB,v.dB,v.kB]
def Ev.fH(v:Ev):Array By:= #[lc v.sB,lc v.tB,lc v.fB,lc v.oB,lc v.dB,lc v.kB]
structure uT(w:BY)(v:Ev)(tb:Nat)(fr til:Nm)(fn:Nat)(fH:Array By)(seen:Nat):Prop where
 s:aM w v.sB 3 #[U5 U6 (seen:Nat)]
 t:aM w v.tB 35 #[tp tb]
 f:aM w v.fB 9 #[U7 fr]
 o:aM w v.oB 9 #[U7 til]
 d:aM w v.dB 112 #[.func (.func fn) #[] fH]
 k:aM w v.kB 191 #[.func (.func 109) #[] v.fH]
section
variable{w w':BY}{v:Ev}{tb:Nat}{fr til:Nm}{fn:Nat}{fH:Array By}{seen:Nat}{S:List Nat}
def uT.only(h:uT w v tb fr til fn fH seen)(o:ah S w w')(hd:∀g∈v.JR,g∉S):uT w' v tb fr til fn fH seen:=
 ⟨h.s.only o (hd _ (by simp[Ev.JR])),h.t.only o (hd _ (by simp[Ev.JR])),h.f.only o (hd _ (by simp[Ev.JR])),h.o.only o (hd _ (by simp[Ev.JR])),h.d.only o (hd _ (by simp[Ev.JR])),h.k.only o (hd _ (by simp[Ev.JR]))⟩
def uT.below(h:uT w v tb fr til fn fH seen)(hb:i7 w w'):uT w' v tb fr til fn fH seen:=h.only (S:=[]) (.aj hb) lw
def uT.lt(h:uT w v tb fr til fn fH seen):∀g∈v.JR,g<w.heap.size:=λg hg=>by
 simp only[Ev.JR,ax,iD,or_false]at hg
 rcases hg with rfl|rfl|rfl|rfl|rfl|rfl
 .exact h.s.lt
 .exact h.t.lt
 .exact h.f.lt
 .exact h.o.lt
 .exact h.d.lt
 .exact h.k.lt
def uT.up(h:uT w v tb fr til fn fH seen):uT (w.setCell ⟨v.sB,0,none⟩ ((seen+1:Nat):Int)) v tb fr til fn fH (seen+1):=
 ⟨h.s.ct 0 _,h.t.bh (λe=>h.s.mx h.t ms e.symm) _,h.f.bh (λe=>h.s.mx h.f ms e.symm) _,h.o.bh (λe=>h.s.mx h.o ms e.symm) _,h.d.bh (λe=>h.s.mx h.d ms e.symm) _,h.k.bh (λe=>h.s.mx h.k ms e.symm) _⟩
end
section
variable{σ:Type}{w wr w':BY}{v:Ev}{tb:Nat}{I:Ix}{F G:List Nat}{n K:Nat}{fr til:Nm}{fn:Nat}{fH:Array By}{jP:σ->Nat}{Inv:BY->σ->List Nat->Prop}{q:QS}{sn bd:Nat}{s:σ}{Gi:List Nat}{leaf:Bool}{A:Option Addr}{c Gs:Nat}{l:List E}{step:E->σ->σ×Bool}
end
end Sh
namespace Sh
open Go.RowKit Pk Dk Pg
variable{p j:Int}{a:St}
abbrev Vw:=Int->UV×Int
def kU(v:Vw)(p:Int)(b:UV):Vw:=λj=>if j=p then(b,0)else v j
def JS(v:Vw)(p:Int):Vw:=λj=>if j=p then([],3)else v j
def Hy(v:Vw)(p:Int)(b:UV):kU v p b p=(b,0):=U8 rfl
def nz(v:Vw)(b:UV)(h:j≠p):kU v p b j=v j:=U9 h
def Hz(v:Vw)(p:Int):JS v p p=([],3):=U8 rfl
def JT(v:Vw)(h:j≠p):JS v p j=v j:=U9 h
def QS.jP(q:QS):Nat×List (Option (UV))×Nat:=(q.a.now.length,q.a.aR,q.a.many)
def VQ(a:St)(l:Int)(p:UV):(a.ao l p).1.now.length=a.now.length/\(a.ao l p).1.aR=a.aR/\(a.ao l p).1.many=a.many:=by
 unfold St.ao
 split
 .exact⟨rfl,rfl,rfl⟩
 .split
  .exact⟨rfl,rfl,rfl⟩
  .split
   .exact⟨rfl,rfl,rfl⟩
   .exact⟨by show(a.now.set _ _).length=_;rw[bR],rfl,rfl⟩
def VR{l:Int}{p:UV}(h:(a.ao l p).2=11):a.free=0:=by
 unfold St.ao at h
 split at h
 .exact eq h lw
 .split at h
  .exact eq h lw
  .split at h
   .rename_i h1;exact h1.2
   .exact eq h lw
def sU(q:QS)(k:Nat):(q.bl k).1.jP=q.jP:=by
 unfold QS.bl
 split
 .obtain⟨a,b,c⟩:=VQ q.a (il q.l k).au (il q.l k).fS.data.toList
  split<;>exact mu a (mu b c)
 .rfl
def MN{q:QS}{k:Nat}(h:(q.bl k).2=11):q.a.free=0:=by
 unfold QS.bl at h
 split at h
 .split at h
  .exact eq h lw
  .exact VR h
 .exact eq h lw
def vQ(q:QS):q.az.1.jP=q.jP:=by
 unfold QS.jP;rw[(gG q).1]
def xJ(q:QS)(p:Int):(q.aU p).1.jP=q.jP:=by
 unfold QS.aU
 split
 .rfl
 .split
  .rfl
  .split
   .exact vQ q
   .split
    .rw[sU];exact vQ q
    .exact(sU _ _).trans (vQ q)
def MO{q:QS}(h:(q.aU p).2.2=11):q.a.free=0:=by
 unfold QS.aU at h
 split at h
 .exact eq h lw
 .split at h
  .rename_i h1;have h:(q.a.aO p).2=11:=h;unfold St.aO at h
   split at h
   .exact eq h lw
   .exact eq h lw
  .split at h
   .exact eq h lw
   .split at h
    .have:=MN h;rw[(gG q).1]at this;exact this
    .exact eq h lw
def TG(q:QS)(p:Int):(q.fG p).1.jP=q.jP:=by
 unfold QS.fG
 split<;>rfl
def ZH(q:QS)(p:Int)(b:Nm):(q.eP p b).1.jP=q.jP:=by
 unfold QS.eP
 split
 .rfl
 .split<;>rfl
def get_mes(q:QS)(p:Int):(q.cF p).1.jP=q.jP:=by
 unfold QS.cF
 split
 .exact xJ q p
 .rw[TG];exact xJ q p
def get_f11{q:QS}(h:(q.cF p).2.2=11):q.a.free=0:=by
 unfold QS.cF at h
 split at h
 .exact MO h
 .exact eq h lw
def TH(q:QS)(p:Int)(b:Nm):(q.dh p b).1.jP=q.jP:=by
 unfold QS.dh
 split
 .rfl
 .split
  .exact xJ q p
  .rw[TG,ZH];exact xJ q p
def put_f11{q:QS}{b:Nm}(h:(q.dh p b).2=11):q.a.free=0:=by
 unfold QS.dh at h
 split at h
 .exact eq h lw
 .split at h
  .exact MO h
  .exact eq h lw
def VS(q:QS)(i:Int):(q.dk i).1.jP=q.jP:=by
 unfold QS.dk
 split
 .rfl
 .split
  .rfl
  .split
   .rfl
   .split
    .exact sU q _
    .exact sU q _
def MP(q:QS)(p:Int):(q.aF p).1.jP=q.jP:=by
 have h:(q.a.aF p).1.now.length=q.a.now.length/\(q.a.aF p).1.aR=q.a.aR/\(q.a.aF p).1.many=q.a.many:=by
  unfold St.aF
  split
  .exact⟨by show(q.a.now.set _ _).length=_;rw[bR],rfl,rfl⟩
  .exact⟨rfl,rfl,rfl⟩
 obtain⟨a,b,c⟩:=h;unfold QS.aF
 split
 .rfl
 .split
  .exact mu a (mu b c)
  .split<;>exact mu a (mu b c)
def new_mes(q:QS)(p:UV):(q.bE p).1.a.now.length<=q.a.now.length+1/\(q.bE p).1.a.aR=q.a.aR/\(q.bE p).1.a.many=q.a.many:=by
 show(q.a.bE p).1.now.length<=_/\(q.a.bE p).1.aR=_/\(q.a.bE p).1.many=_;unfold St.bE
 split
 .exact⟨Nat.le_succ _,rfl,rfl⟩
 .split
  .exact⟨Nat.le_succ _,rfl,rfl⟩
  .refine⟨?_,rfl,rfl⟩;show(qK q.a.now _ _).length<=_;unfold qK
   split
   .simp
   .rw[bR];omega
def ZJ(a:St):a.slot<=a.now.length:=by unfold St.slot;exact qt
def new_f11{q:QS}{p:UV}(h:(q.bE p).2.2=11):512<=q.a.now.length\/q.a.free=0:=by
 have h:(q.a.bE p).2.2=11:=h;unfold St.bE at h
 split at h
 .exact eq h lw
 .split at h
  .rename_i h1;exact h1.imp (λh=>aD h (ZJ q.a)) id
  .exact eq h lw
def MQ{u:Nat}(h:a.now.length+a.kept<=u)(hu:u<a.many):a.free≠0:=by
 have:a.fresh<=a.now.length:=yk;unfold St.free;omega
structure Rd(q:QS)(v o:Vw)(u m:Nat):Prop where
 w:∃n K,Wp q n K
 v:∀j,q.vw j=v j
 o:∀j,q.ov j=o j
 u:q.a.now.length+q.a.kept<=u
 m:m<=q.a.many
section
variable{q:QS}{v o:Vw}{u m:Nat}
def xK{q q':QS}(h:q'.jP=q.jP):q'.a.now.length+q'.a.kept=q.a.now.length+q.a.kept/\q'.a.many=q.a.many/\q'.a.aR=q.a.aR:=by
 have h1:q'.a.now.length=q.a.now.length:=congrArg Prod.fst h;have h2:q'.a.aR=q.a.aR:=congrArg (λx=>x.2.1) h;have h3:q'.a.many=q.a.many:=congrArg (λx=>x.2.2) h;refine⟨?_,h3,h2⟩;unfold St.kept;rw[h1,h2]
def Rd.step(h:Rd q v o u m){q':QS}{v':Int->UV×Int}(hm:q'.jP=q.jP)(hw:∃n K,Wp q' n K)(hv:∀j,q'.vw j=v' j):Rd q' v' o u m:=by
 obtain⟨a,b,c⟩:=xK hm;exact⟨hw,hv,λj=>(Hd c j).trans (h.o j),by rw[a];exact h.u,by rw[b];exact h.m⟩
def Rd.free(h:Rd q v o u m)(h0:q.a.free=0):m<=u:=by
 rcases fo u m with h1|h1
 .exact eq h0 (MQ h.u (qy h1 h.m))
 .exact h1
def Rd.get(h:Rd q v o u m)(p:Int):Rd (q.cF p).1 v o u m/\
  (((v p).2=0/\(q.cF p).2=(⟨(v p).1.toArray⟩,0))\/(v p=([],3)/\(q.cF p).2=(⟨#[]⟩,3))\/((q.cF p).2=(⟨#[]⟩,11)/\m<=u)):=by
 obtain⟨n,K,w⟩:=h.w;obtain⟨a,b⟩:=w.get p;refine⟨h.step (get_mes q p) ⟨n,_,a.w⟩ (λj=>(a.v j).trans (h.v j)),?_⟩;rw[h.v]at b
 rcases b with b|b|⟨b,c⟩
 .exact .inl b
 .exact .inr (.inl b)
 .exact .inr (.inr ⟨c,h.free (get_f11 (p:=p) (by rw[c]))⟩)
def Rd.put(h:Rd q v o u m)(p:Int)(b:Nm)(hb:b.size=232)(h0:(v p).2=0):
  ((q.dh p b).2=0/\Rd (q.dh p b).1 (kU v p b.data.toList) o u m)\/((q.dh p b).2=11/\Rd (q.dh p b).1 v o u m/\m<=u):=by
 obtain⟨n,K,w⟩:=h.w;obtain⟨a,c⟩:=w.put p b ls
 rcases c with⟨c1,c2,c3⟩|⟨c1,c2,c3⟩|⟨c1,c2,c3⟩
 .refine .inl ⟨c2,h.step (TH q p b) ⟨n,_,a.w⟩ (λj=>?_)⟩;rw[c3,xw hb];unfold kU
  split
  .rfl
  .exact h.v j
 .rw[h.v]at c1;rw[c1]at h0;exact eq h0 ms
 .exact .inr ⟨c2,h.step (TH q p b) ⟨n,_,a.w⟩ (λj=>(c3 j).trans (h.v j)),h.free (put_f11 c2)⟩
def Rd.new(h:Rd q v o u m)(p:Nm)(hb:p.size<=232):
  (∃l:Nat,(q.bE p.data.toList).2=(((l:Nat):Int),0)/\l<=511/\v (l:Nat)=([],3)/\Rd (q.bE p.data.toList).1 (kU v (l:Nat) (ff p.data.toList 232)) o (u+1) m)\/
  ((q.bE p.data.toList).2=(0,11)/\Rd (q.bE p.data.toList).1 v o (u+1) m/\(m<=u\/512<=u)):=by
 obtain⟨n,K,w⟩:=h.w;obtain⟨a,c⟩:=w.new p hb;obtain⟨m1,m2,m3⟩:=new_mes q p.pu;have hk:(q.bE p.pu).1.a.now.length+(q.bE p.pu).1.a.kept<=u+1:=by
  have:=h.u;have hk:(q.bE p.pu).1.a.kept=q.a.kept:=by unfold St.kept;rw[m2]
  omega
 rcases c with⟨l,c1,c2,c3,c4⟩|⟨c1,c2⟩
 .refine .inl ⟨l,c1,c2,by rw[<-h.v];exact c3,⟨n,_,a.w⟩,λj=>?_,λj=>(Hd m2 j).trans (h.o j),hk,by rw[m3];exact h.m⟩;rw[c4];unfold kU
  split
  .rfl
  .exact h.v j
 .refine .inr ⟨c1,⟨⟨n,_,a.w⟩,λj=>(c2 j).trans (h.v j),λj=>(Hd m2 j).trans (h.o j),hk,by rw[m3];exact h.m⟩,?_⟩
  rcases new_f11 (q:=q) (p:=p.pu) (by rw[c1])with h1|h1
  .have:=h.u;right;omega
  .exact .inl (h.free h1)
def Rd.drop(h:Rd q v o u m)(p:Int)(h0:(v p).2=0):(q.aF p).2=0/\Rd (q.aF p).1 (JS v p) o u m:=by
 obtain⟨n,K,w⟩:=h.w;obtain⟨a,c⟩:=w.drop p
 rcases c with⟨c1,c2,c3⟩|⟨c1,c2,c3⟩
 .refine⟨c2,h.step (MP q p) ⟨n,_,a.w⟩ (λj=>?_)⟩;rw[c3];unfold JS
  split
  .rfl
  .exact h.v j
 .rw[h.v]at c1;rw[c1]at h0;exact eq h0 lw
def Rd.pR(h:Rd q v o u m)(i:Int):Rd (q.dk i).1 v o u m/\((q.dk i).2=0\/(q.dk i).2=3\/(q.dk i).2=11):=by
 obtain⟨n,K,w⟩:=h.w;obtain⟨a,c⟩:=w.pR i;exact⟨h.step (VS q i) ⟨n,_,a.w⟩ (λj=>(a.v j).trans (h.v j)),c⟩
def Rd.lt(h:Rd q v o u m)(h0:(v j).2=0):0<=j/\j<512:=by
 obtain⟨n,K,w⟩:=h.w;exact w.vw_lt (by rw[h.v];exact h0)
def Rd.err(h:Rd q v o u m)(j:Int):(v j).2=0\/v j=([],3):=by
 rw[<-h.v];exact JH q j
def Rd.le(h:Rd q v o u m){u':Nat}(hu:u<=u'):Rd q v o u' m:=⟨h.w,h.v,h.o,aD h.u hu,h.m⟩
end
open Nd (E aJ aP dm bw aY cg aZ aw)
variable{leaf:Bool}{l:List E}{v:Vw}{p:Int}
def jO(v:Vw)(p:Int):Bool×List E×Int:=
 if(v p).2≠0 then(false,[],rH (v p).2)else((aJ (v p).1).1,(aJ (v p).1).2.1,rH (aJ (v p).1).2.2)
def pZ(leaf:Bool)(l:List E):(dm (blank leaf l) leaf/\aw (blank leaf l)<=223/\(bM leaf l).2=0/\(bM leaf l).1.length=232/\aJ (bM leaf l).1=(leaf,blank leaf l,0))\/
  (dm (blank leaf l) leaf/\223<aw (blank leaf l)/\bM leaf l=([],11))\/(¬dm (blank leaf l) leaf/\bM leaf l=([],2)):=by
 unfold bM
 by_cases hm:dm (blank leaf l) leaf
 .have hb:=Nd.Et leaf (blank leaf l)
  by_cases hr:aw (blank leaf l)<=223
  .left;have h0:(aP leaf (blank leaf l)).2=0:=by
    unfold aP;rw[U8 ((Nd.mN _ _).2 hm),U8 (by rw[hb];omega)]
   refine⟨hm,hr,h0,?_,Nd.ME h0⟩;unfold aP;rw[U8 ((Nd.mN _ _).2 hm),U8 (by rw[hb];omega)];exact(Nd.zi _ (by rw[hb];omega)).1.len
  .right;left;refine⟨hm,ls,?_⟩;unfold aP;rw[U8 ((Nd.mN _ _).2 hm),U9 (by rw[hb];omega)]
 .right;right;refine⟨hm,?_⟩;unfold aP;rw[U9 (λh=>hm ((Nd.mN _ _).1 h))]
def EG(h:(bM leaf l).2=0):dm (blank leaf l) leaf/\aw (blank leaf l)<=223/\(bM leaf l).1.length=232/\aJ (bM leaf l).1=(leaf,blank leaf l,0):=by
 rcases pZ leaf l with⟨a,b,c,d,e⟩|⟨a,b,c⟩|⟨a,c⟩
 .exact⟨a,b,d,e⟩
 .rw[c]at h;exact eq h ms
 .rw[c]at h;exact eq h ms
def iH(h:(bM leaf l).2=0)(p j:Int):jO (kU v p (bM leaf l).1) j=if j=p then(leaf,blank leaf l,0)else jO v j:=by
 unfold jO kU
 by_cases e:j=p
 .rw[U8 e,U8 e,(EG h).2.2.2];rfl
 .rw[U9 e,U9 e]
def zu{v':Vw}(h:v' p=v p):jO v' p=jO v p:=by
 unfold jO;rw[h]
def om(h:(jO v p).2.2=0):(v p).2=0:=by
 unfold jO at h
 split at h
 .rename_i h1;exact eq (uy.1 h) h1
 .rename_i h1;omega
def qZ(h:(jO v p).2.2=0):dm (jO v p).2.1 (jO v p).1:=by
 have h0:=om h;unfold jO at h ⊢;rw[ge]at h ⊢;have h1:=uy.1 h;exact Nd.AA h1
section
variable{q:QS}{v o:Vw}{u m:Nat}
def Rd.read(h:Rd q v o u m)(p:Int):Rd (q.aT p).1 v o u m/\((q.aT p).2=jO v p\/((q.aT p).2=(false,[],11)/\m<=u)):=by
 obtain⟨a,b⟩:=h.get p;unfold QS.aT jO
 rcases b with⟨b1,b2⟩|⟨b1,b2⟩|⟨b1,b2⟩
 .rw[b2,i8,ge];exact⟨a,.inl rfl⟩
 .rw[b2,b1,i9,i9];exact⟨a,.inl rfl⟩
 .rw[b1,i9];exact⟨a,.inr ⟨rfl,b2⟩⟩
def Rd.write(h:Rd q v o u m)(h0:(v p).2=0)(hl:(bM leaf l).2=0):
  ((q.bg p leaf l).2=0/\Rd (q.bg p leaf l).1 (kU v p (bM leaf l).1) o u m)\/((q.bg p leaf l).2=11/\Rd (q.bg p leaf l).1 v o u m/\m<=u):=by
 unfold QS.bg;rw[ge];exact h.put p ⟨(bM leaf l).1.toArray⟩ (by show(bM leaf l).1.toArray.size=_;rw[mh];exact(EG hl).2.2.1) h0
def VU(q:QS)(p:Int)(hl:(bM leaf l).2≠0):q.bg p leaf l=(q,(bM leaf l).2):=by
 unfold QS.bg;rw[U8 hl]
def Rd.make(h:Rd q v o u m)(hl:(bM leaf l).2=0):
  (∃k:Nat,(q.cu leaf l).2=(((k:Nat):Int),0)/\k<=511/\v (k:Nat)=([],3)/\Rd (q.cu leaf l).1 (kU v (k:Nat) (bM leaf l).1) o (u+1) m)\/
  ((q.cu leaf l).2=(0,11)/\Rd (q.cu leaf l).1 v o (u+1) m/\(m<=u\/512<=u)):=by
 unfold QS.cu;rw[ge];have hn:=h.new ⟨(bM leaf l).1.toArray⟩ (by show(bM leaf l).1.toArray.size<=_;rw[mh,(EG hl).2.2.1];exact ai _);have e:ff (bM leaf l).1 232=(bM leaf l).1:=by
  have:=xw (b:=⟨(bM leaf l).1.toArray⟩) (by show(bM leaf l).1.toArray.size=_;rw[mh];exact(EG hl).2.2.1);exact this
 have hd:(⟨(bM leaf l).1.toArray⟩:Nm).data.toList=(bM leaf l).1:=rfl;rw[hd,e]at hn;exact hn
end
open Nd (E aJ aP dm bw aY cg aZ aw eh)
variable{a b c:Nm}{v v':Vw}{h:Nat}{l:List E}{leaf:Bool}{p:Int}{y:Step}
def EH{α β:Type}{f g:α->List β}:∀{l:List α},(∀a∈l,f a=g a)->l.flatMap f=l.flatMap g
 |[],_=>rfl
 |a::l,h=>by rw[jg,jg,h a lw,EH λx hx=>h x (by simp[hx])]
def kc(a b:Nm):Int:=Nd.cb a.data.toList b.data.toList
abbrev iK(a b:Nm):Prop:=kc a b<0
abbrev q8(a b:Nm):Prop:=kc a b<=0
def TK :kc a b=0↔a=b:=by
 unfold kc;rw[Nd.Zt];exact⟨λh=>mP (rk.1 h),λh=>by rw[h]⟩
def Q3(a b:Nm):kc b a= -kc a b:=Nd.JM _ _
def kg(h:iK a b)(k:iK b c):iK a c:=Nd.sP _ _ _ h k
def vR(h:iK a b):q8 a b:=Int.le_of_lt h
def uB(h:q8 a b):iK a b\/a=b:=by
 rcases Int.lt_or_eq_of_le h with h|h
 .exact .inl h
 .exact .inr (TK.1 h)
def iI(h:iK a b)(k:q8 b c):iK a c:=by
 rcases uB k with k|rfl
 .exact kg h k
 .exact h
def kh(h:q8 a b)(k:iK b c):iK a c:=by
 rcases uB h with h|rfl
 .exact kg h k
 .exact k
def p7(h:q8 a b)(k:q8 b c):q8 a c:=by
 rcases uB h with h|rfl
 .exact vR (iI h k)
 .exact k
def TM(a:Nm):q8 a a:=Int.le_of_eq (TK.2 rfl)
def kK(h:iK a a):False:=by
 have:=TK.2 (rfl:a=a);omega
def zx(h:iK a b)(k:q8 b a):False:=kK (iI h k)
def oo(h:¬iK a b):q8 b a:=by
 have:=Q3 a b;omega
def zy(a:Nm):q8 ⟨#[]⟩ a:=by
 show Nd.cb [] a.pu<=0
 cases a.pu<;>simp[Nd.cb,Lib.compareBytes]
abbrev NT:=Nat×Int×List E
def aS(v:Vw):Nat->Int->List NT
 |0,p=>[(0,p,(jO v p).2.1)]
 |h+1,p=>(h+1,p,(jO v p).2.1)::(jO v p).2.1.flatMap λe=>aS v h e.bh
def bW(v:Vw)(h:Nat)(l:List E):List NT:=l.flatMap λe=>aS v h e.bh
def cK(ns:List NT):List E:=ns.flatMap λn=>if n.1=0 then n.2.2 else []
def cf(ns:List NT):List Int:=ns.map λn=>n.2.1
def iT(v:Vw)(h:Nat)(p:Int):List E:=cK (aS v h p)
@[simp] theorem entsT_nil:cK []=[]:=rfl
@[simp] theorem eJ(a b:List NT):cK (a++b)=cK a++cK b:=by simp[cK]
def vS(n:NT)(a:List NT):cK (n::a)=(if n.1=0 then n.2.2 else [])++cK a:=rfl
@[simp] theorem Q4(p:Int)(l:List E)(a:List NT):cK ((0,p,l)::a)=l++cK a:=rfl
@[simp] theorem l9(h:Nat)(p:Int)(l:List E)(a:List NT):cK ((h+1,p,l)::a)=cK a:=by rw[vS];simp
@[simp] theorem pgsT_nil:cf []=[]:=rfl
@[simp] theorem dK(a b:List NT):cf (a++b)=cf a++cf b:=by simp[cf]
@[simp] theorem dN(n:NT)(a:List NT):cf (n::a)=n.2.1::cf a:=rfl
@[simp] theorem VV(v:Vw)(h:Nat):bW v h []=[]:=rfl
@[simp] theorem ia(v:Vw)(h:Nat)(e:E)(l:List E):bW v h (e::l)=aS v h e.bh++bW v h l:=rfl
@[simp] theorem iY(v:Vw)(h:Nat)(a b:List E):bW v h (a++b)=bW v h a++bW v h b:=by simp[bW]
def eB{x:E}:x∈cK (bW v h l)↔ ∃e∈l,x∈iT v h e.bh:=by
 induction l with
 |nil=>simp
 |cons e l ih=>simp[ih,iT]
structure vT(C:Int->Prop)(en:Int->List E)(l:List E):Prop where
 ne:l≠[]
 c:∀e∈l,C e.bh/\en e.bh≠[]
 lo:l.Pairwise λc e=> ∀x∈en c.bh,iK x.key e.key
 hi:∀e∈l.tail,∀x∈en e.bh,q8 e.key x.key
def nL(v:Vw):Nat->Int->Prop
 |0,p=>jO v p=(true,(jO v p).2.1,0)/\aw (jO v p).2.1<=223
 |h+1,p=>jO v p=(false,(jO v p).2.1,0)/\aw (jO v p).2.1<=223/\blank false (jO v p).2.1=(jO v p).2.1/\vT (nL v h) (iT v h) (jO v p).2.1
def ix(v:Vw)(h:Nat)(l:List E):Prop:=(∀e∈l,eh e (decide (h=0)))/\match h with
 |0=>l.Pairwise λc e=>iK c.key e.key
 |h+1=>vT (nL v h) (iT v h) l
def cZ(v:Vw)(h:Nat)(l:List E):List NT:=match h with
 |0=>[]
 |h+1=>bW v h l
def iP(v:Vw)(h:Nat)(l:List E):List E:=match h with
 |0=>l
 |h+1=>cK (bW v h l)
def oX(v:Vw)(h:Nat)(p:Int):aS v h p=(h,p,(jO v p).2.1)::cZ v h (jO v p).2.1:=by cases h<;>rfl
def JU(v:Vw)(h:Nat)(p:Int):iT v h p=iP v h (jO v p).2.1:=by
 cases h with
 |zero=>simp[iT,aS,iP]
 |succ h=>exact l9 _ _ _ _
def nM(h:dm l leaf):∀e∈l,eh e leaf:=λe he=>by
 obtain⟨i,hi,rfl⟩:=qu he;exact(h i hi _ (aQ hi)).1
def MU(h:dm l leaf):l.Pairwise λc e=>iK c.key e.key:=by
 rw[I4];intro i j hi hj hij;exact Nd.QY h i (j-i-1) (aQ hi) (by rw[show i+1+(j-i-1)=j by omega];exact aQ hj)
def Q5(h:∀e∈l,eh e leaf)(hp:l.Pairwise λc e=>iK c.key e.key):dm l leaf:=by
 intro i hi e he;refine⟨h e (ay he),λh0 p hpe=>?_⟩;rw[I4]at hp;have h1:=hp (i-1) i ls hi ls;rw[aQ ls]at he hpe;injection he with he
 injection hpe with hpe
 rw[he,hpe]at h1;rw[Nd.Zu,decide_eq_false_iff_not];have h2:=Q3 p.key e.key;have h1:kc p.key e.key<0:=h1;show ¬kc e.key p.key<=0;omega
def pair_ne{C:Int->Prop}{en:Int->List E}(h:vT C en l):l.tail.Pairwise λc e=>iK c.key e.key:=by
 obtain⟨ne,c,lo,hi⟩:=h
 cases l with
 |nil=>exact List.Pairwise.nil
 |cons e l=>
  rw[mj]at hi ⊢;rw[eT]at lo;refine List.Pairwise.imp_of_mem ?_ lo.2;intro a b ha hb Q6;obtain⟨x,hx⟩:=ym _ (c a (aH _ ha)).2;exact kh (hi a ha x hx) (Q6 x hx)
def in_may{C:Int->Prop}{en:Int->List E}(h:vT C en l)(hr:∀e∈l,eh e false):dm (blank false l) false:=by
 have hp:=pair_ne h;obtain⟨ne,c,lo,hi⟩:=h
 cases l with
 |nil=>exact eq rfl ne
 |cons e l=>
  have hb:blank false (e::l)={e with key:=⟨#[]⟩}::l:=rfl;rw[hb];refine Q5 (λx hx=>?_) ?_
  .rcases ax.1 hx with rfl|hx
   .obtain⟨a,b,cc⟩:=hr e (ie ..);exact⟨bG _,b,cc⟩
   .exact hr x (aH _ hx)
  .rw[eT]at lo ⊢;refine⟨λx hx=>?_,hp⟩;obtain⟨y,hy⟩:=ym _ (c e (ie ..)).2;exact kh (zy y.key) (lo.1 x hx y hy)
def ZK{C:Int->Prop}{en:Int->List E} :vT C en (blank false l)↔vT C en l:=by
 cases l with
 |nil=>exact Iff.rfl
 |cons e l=>
  have hb:blank false (e::l)={e with key:=⟨#[]⟩}::l:=rfl;rw[hb]
  constructor
  .rintro⟨ne,c,lo,hi⟩;refine⟨lw,λx hx=>?_,?_,hi⟩
   .rcases ax.1 hx with rfl|hx
    .exact c {x with key:=⟨#[]⟩} (ie ..)
    .exact c x (aH _ hx)
   .rw[eT]at lo ⊢;exact lo
  .rintro⟨ne,c,lo,hi⟩;refine⟨lw,λx hx=>?_,?_,hi⟩
   .rcases ax.1 hx with rfl|hx
    .exact c e (ie ..)
    .exact c x (aH _ hx)
   .rw[eT]at lo ⊢;exact lo
def EI(v:Vw)(h:Nat)(leaf:Bool)(l:List E):bW v h (blank leaf l)=bW v h l:=by
 cases leaf<;>cases l<;>rfl
def ma(l:List E):blank true l=l:=by cases l<;>rfl
def p9(leaf:Bool):blank leaf []=[]:=by cases leaf<;>rfl
def eA(leaf:Bool)(l:List E):aw (blank leaf l)<=aw l:=by
 cases leaf
 .cases l with
  |nil=>exact ai _
  |cons e l=>show aw ({e with key:=⟨#[]⟩}::l)<=_;unfold aw;simp;exact bG _
 .rw[ma];exact ai _
def MV(k:ix v h l):dm (blank (decide (h=0)) l) (decide (h=0)):=by
 cases h with
 |zero=>exact(ma l).symm▸Q5 k.1 k.2
 |succ h=>exact in_may k.2 k.1
def JV(k:nL v h p):jO v p=(decide (h=0),(jO v p).2.1,0)/\aw (jO v p).2.1<=223/\ix v h (jO v p).2.1:=by
 cases h with
 |zero=>
  have hm:=qZ (v:=v) (p:=p) (by rw[k.1]);rw[k.1]at hm;exact⟨k.1,k.2,nM hm,MU hm⟩
 |succ h=>
  have hm:=qZ (v:=v) (p:=p) (by rw[k.1]);rw[k.1]at hm;exact⟨k.1,k.2.1,nM hm,k.2.2.2⟩
def list_ok(k:jO v p=(decide (h=0),l,0))(hb:aw l<=223)(hk:blank (decide (h=0)) l=l)(hl:ix v h l):nL v h p:=by
 cases h with
 |zero=>exact⟨by rw[k];rfl,by rw[k];exact hb⟩
 |succ h=>exact⟨by rw[k];rfl,by rw[k];exact hb,by rw[k];exact hk,by rw[k];exact hl.2⟩
def AF :∀(h:Nat) (p:Int),(∀j∈cf (aS v h p),v' j=v j)->aS v' h p=aS v h p/\(nL v h p->nL v' h p)
 |0,p,hj=>by
  have e:=zu (hj p (by simp[aS]));exact⟨by unfold aS;rw[e],λh=>by unfold nL at h ⊢;rw[e];exact h⟩
 |h+1,p,hj=>by
  have e:=zu (hj p (by simp[aS]));have hk:∀c∈(jO v p).2.1,aS v' h c.bh=aS v h c.bh/\(nL v h c.bh->nL v' h c.bh):=λc hc=>AF h c.bh λj hjm=>hj j (by
   unfold aS;rw[dN];refine aH _ ?_;simp only[cf,dq,oI]at hjm ⊢;obtain⟨n,hn,rfl⟩:=hjm;exact⟨n,⟨c,hc,hn⟩,rfl⟩)
  have hf:((jO v p).2.1.flatMap λe=>aS v' h e.bh)=(jO v p).2.1.flatMap λe=>aS v h e.bh:=EH λc hc=>(hk c hc).1;refine⟨?_,?_⟩
  .unfold aS;rw[e,hf]
  .unfold nL;rw[e];rintro⟨a,b,bk,d⟩;refine⟨a,b,bk,d.ne,λx hx=>⟨(hk x hx).2 (d.c x hx).1,by unfold iT;rw[(hk x hx).1];exact(d.c x hx).2⟩,?_,λx hx y hy=>?_⟩
   .refine List.Pairwise.imp_of_mem ?_ d.lo;intro x y hx hy hxy z hz;unfold iT at hz;rw[(hk x hx).1]at hz;exact hxy z hz
   .unfold iT at hy;rw[(hk x (wE hx)).1]at hy;exact d.hi x hx y hy
def jr(hj:∀j∈cf (bW v h l),v' j=v j):bW v' h l=bW v h l/\∀e∈l,aS v' h e.bh=aS v h e.bh/\(nL v h e.bh->nL v' h e.bh):=by
 have hk:∀c∈l,aS v' h c.bh=aS v h c.bh/\(nL v h c.bh->nL v' h c.bh):=λc hc=>AF h c.bh λj hjm=>hj j (by
  unfold bW;simp only[cf,dq,oI]at hjm ⊢;obtain⟨n,hn,rfl⟩:=hjm;exact⟨n,⟨c,hc,hn⟩,rfl⟩)
 exact⟨EH λc hc=>(hk c hc).1,hk⟩
def ZL(hk:∀e∈l,aS v' h e.bh=aS v h e.bh/\(nL v h e.bh->nL v' h e.bh))(d:vT (nL v h) (iT v h) l):vT (nL v' h) (iT v' h) l:=by
 refine⟨d.ne,λx hx=>⟨(hk x hx).2 (d.c x hx).1,by unfold iT;rw[(hk x hx).1];exact(d.c x hx).2⟩,?_,λx hx y hy=>?_⟩
 .refine List.Pairwise.imp_of_mem ?_ d.lo;intro x y hx hy hxy z hz;unfold iT at hz;rw[(hk x hx).1]at hz;exact hxy z hz
 .unfold iT at hy;rw[(hk x (wE hx)).1]at hy;exact d.hi x hx y hy
def mc(hj:∀j∈cf (cZ v h l),v' j=v j):cZ v' h l=cZ v h l/\iP v' h l=iP v h l/\(ix v h l->ix v' h l):=by
 cases h with
 |zero=>exact⟨rfl,rfl,id⟩
 |succ h=>
  obtain⟨a,b⟩:=jr (h:=h) (l:=l) hj;exact⟨a,by show cK _=cK _;rw[a],λk=>⟨k.1,ZL b k.2⟩⟩
structure ZM(v:Vw)(h:Nat)(y:Step)(p:Int)(a:List E)(c:E)(b:List E):Prop where
 leaf:y.leaf=false
 nd:jO v y.au=(false,y.l,0)
 by_:aw y.l<=223
 bk:blank false y.l=y.l
 l:y.l=a++c::b
 at_:y.at_=a.length
 bh:c.bh=p
 ch:∀e∈a++b,nL v h e.bh/\iT v h e.bh≠[]
 lo:(a++b).Pairwise λc e=> ∀x∈iT v h c.bh,iK x.key e.key
 la:∀e∈a,∀x∈iT v h e.bh,iK x.key c.key
 ha:∀e∈a.tail,∀x∈iT v h e.bh,q8 e.key x.key
 hb:∀e∈b,∀x∈iT v h e.bh,q8 e.key x.key
 hc:a≠[]->∀e∈b,iK c.key e.key
def JW:List Step->Nm->Prop
 |[],_=>True
 |y::up,k=>(0<y.at_->q8 (y.l.getD y.at_ Nd.E.zero).key k)/\(∀e∈y.l.drop (y.at_+1),iK k e.key)/\JW up k
def rp(v:Vw):List Step->Nat->Int->Prop
 |[],_,p=>p=0
 |y::up,h,p=>(∃a c b,ZM v h y p a c b/\∀e∈a++b,∀x∈iT v h e.bh,JW up x.key)/\rp v up (h+1) y.au
def gH(v:Vw):List Step->Nat->List NT
 |[],_=>[]
 |y::up,h=>gH v up (h+1)++(h+1,y.au,y.l)::bW v h (y.l.take y.at_)
def dY(v:Vw):List Step->Nat->List NT
 |[],_=>[]
 |y::up,h=>bW v h (y.l.drop (y.at_+1))++dY v up (h+1)
def dZ(v:Vw)(h:Nat):gH v [] h=[]:=rfl
def dg(v:Vw)(h:Nat):dY v [] h=[]:=rfl
def dO(v:Vw)(y:Step)(up:List Step)(h:Nat):gH v (y::up) h=gH v up (h+1)++(h+1,y.au,y.l)::bW v h (y.l.take y.at_):=rfl
def de(v:Vw)(y:Step)(up:List Step)(h:Nat):dY v (y::up) h=bW v h (y.l.drop (y.at_+1))++dY v up (h+1):=rfl
def mB{a:List E}{c:E}{b:List E}(f:ZM v h y p a c b):y.l.take y.at_=a/\y.l.drop (y.at_+1)=b/\y.l.getD y.at_ Nd.E.zero=c:=by
 rw[f.l,f.at_];refine⟨tI,?_,?_⟩
 .rw[show a++c::b=(a++[c])++b by simp,List.drop_left' lw]
 .simp[jG]
def oq{a:List E}{c:E}{b:List E}(f:ZM v h y p a c b)(up:List Step)(k:Nm):JW (y::up) k↔(a≠[]->q8 c.key k)/\(∀e∈b,iK k e.key)/\JW up k:=by
 obtain⟨h1,h2,h3⟩:=mB f;show((0<y.at_->q8 (y.l.getD y.at_ Nd.E.zero).key k)/\(∀e∈y.l.drop (y.at_+1),iK k e.key)/\JW up k)↔_;rw[h2,h3,f.at_];refine and_congr_left λ_=>?_
 constructor
 .exact λhh hn=>hh (I2.2 hn)
 .exact λhh hn=>hh (I2.1 hn)
def fr_in{a:List E}{c:E}{b:List E}(f:ZM v h y p a c b)(hp:nL v h p)(hn:iT v h p≠[])(hh:∀x∈iT v h p,(a≠[]->q8 c.key x.key)/\∀e∈b,iK x.key e.key):nL v (h+1) y.au:=by
 unfold nL;rw[f.nd];refine⟨rfl,f.by_,f.bk,by rw[f.l];simp,λe he=>?_,?_,λe he=>?_⟩
 .rw[f.l]at he
  rcases aK.1 he with he|he
  .exact f.ch e (cL _ he)
  .rcases ax.1 he with rfl|he
   .rw[f.bh];exact⟨hp,hn⟩
   .exact f.ch e (cv _ he)
 .show y.l.Pairwise _;have:=f.lo;rw[eH]at this;rw[f.l,eH,eT];refine⟨this.1,⟨λe he x hx=>?_,this.2.1⟩,λe he e' Bi x hx=>?_⟩
  .rw[f.bh]at hx;exact(hh x hx).2 e he
  .rcases ax.1 Bi with rfl|Bi
   .exact f.la e he x hx
   .exact this.2.2 e he e' Bi x hx
 .have he:e∈y.l.tail:=he;rw[f.l]at he
  cases ha:a with
  |nil=>
   rw[ha]at he;exact f.hb e he
  |cons z a'=>
   have fy:a≠[]:=by rw[ha];simp
   have hha:=f.ha;rw[ha]at he hha;rw[oZ,mj]at he;rw[mj]at hha
   rcases aK.1 he with he|he
   .exact hha e he
   .rcases ax.1 he with rfl|he
    .intro x hx;rw[f.bh]at hx;exact(hh x hx).1 fy
    .exact f.hb e he
def plug :∀(up:List Step) (h:Nat) (p:Int),rp v up h p->nL v h p->(up≠[]->iT v h p≠[])->(∀x∈iT v h p,JW up x.key)->
  nL v (h+up.length) 0/\aS v (h+up.length) 0=gH v up h++(aS v h p++dY v up h)
 |[],h,p,hH,ho,hn,hi=>by
  have e:p=0:=hH;subst e;exact⟨ho,by simp[dZ,dg]⟩
 |y::up,h,p,hH,ho,hn,hi=>by
  obtain⟨⟨a,c,b,f,hs⟩,hU⟩:=hH;have Ti:=λx hx=>(oq f up x.key).1 (hi x hx);have hn:=hn (by simp);have o1:=fr_in f ho hn (λx hx=>⟨(Ti x hx).1,(Ti x hx).2.1⟩);obtain⟨t1,t2,t3⟩:=mB f;have e1:aS v (h+1) y.au=(h+1,y.au,y.l)::(bW v h a++(aS v h p++bW v h b)):=by
   rw[oX,f.nd];show _::bW v h y.l=_;rw[f.l,iY,ia,f.bh,<-f.l]
  have hmem:∀x∈iT v (h+1) y.au,x∈iT v h p\/∃e∈a++b,x∈iT v h e.bh:=λx hx=>by
   unfold iT at hx;rw[e1,l9,eJ,eJ]at hx
   rcases aK.1 hx with hx|hx
   .obtain⟨e,he,hx⟩:=eB.1 hx;exact .inr ⟨e,cL _ he,hx⟩
   .rcases aK.1 hx with hx|hx
    .exact .inl hx
    .obtain⟨e,he,hx⟩:=eB.1 hx;exact .inr ⟨e,cv _ he,hx⟩
  have fy:iT v (h+1) y.au≠[]:=λh0=>by
   unfold iT at h0;rw[e1,l9,eJ,eJ,OR,OR]at h0;exact hn h0.2.1
  obtain⟨r1,r2⟩:=plug up (h+1) y.au hU o1 (λ_=>fy) (λx hx=>by
   rcases hmem x hx with hx|⟨e,he,hx⟩
   .exact(Ti x hx).2.2
   .exact hs e he x hx)
  have hl:h+(y::up).length=h+1+up.length:=by simp;omega
  rw[hl];refine⟨r1,?_⟩;rw[r2,e1];simp only[dO,de,dZ,dg];rw[t1,t2];simp
variable{l:List E}{v:Vw}{p:Int}{key:Nm}
def ZN(e:E)(k:Nm):Nd.uS e k=kc e.key k:=rfl
def EJ(hp:l.Pairwise λc e=>iK c.key e.key)(key:Nm):∃a b,l=a++b/\aY l key=a.length/\(∀e∈a,iK e.key key)/\
  ((cg l key=true/\∃c b',b=c::b'/\c.key=key/\∀e∈b',iK key e.key)\/(cg l key=false/\∀e∈b,iK key e.key)):=by
 have hle:aY l key<=l.length:=qt;have dP:∀e∈l.take (aY l key),iK e.key key:=λe he=>by
  obtain⟨j,hj,rfl⟩:=qu he;rw[bY]at hj;have hj2:j<l.findIdx λe=>decide (0<=Nd.uS e key):=by unfold aY at hj;omega
  have:=Bm hj2;have:=of_decide_eq_false this;rw[List.getElem_take];rw[ZN]at this;show kc _ _<0;omega
 refine⟨l.take (aY l key),l.drop (aY l key),(mo _ _).symm,by rw[bY];omega,dP,?_⟩
 rcases fo (aY l key) l.length with hf|hf
 .have he:=vi hf;have h0:0<=kc l[aY l key].key key:=by
   have:=rN (w:=show(l.findIdx λe=>decide (0<=Nd.uS e key))<l.length from hf);exact of_decide_eq_true this
  rw[he];have hp2:(l.drop (aY l key)).Pairwise λc e=>iK c.key e.key:=hp.sublist (List.drop_sublist _ _);rw[he,eT]at hp2;unfold cg;rw[aQ hf];dsimp only;rw[ZN]
  by_cases hz:kc l[aY l key].key key=0
  .left;have hk:=TK.1 hz;refine⟨by rw[ww hz],_,_,rfl,hk,λe he=>?_⟩;rw[<-hk];exact hp2.1 e he
  .right;have hn:=Q3 l[aY l key].key key;have h1:iK key l[aY l key].key:=by show kc _ _<0;omega
   refine⟨by rw[wn hz],λe he=>?_⟩
   rcases ax.1 he with rfl|he
   .exact h1
   .exact kg h1 (hp2.1 e he)
 .right;rw[lT hf];refine⟨?_,lw⟩;unfold cg;rw[fw hf]
def MW(hp:l.Pairwise λc e=>iK c.key e.key)(hn:l≠[])(key:Nm):∃a c b,l=a++c::b/\bw l key=a.length/\(a≠[]->q8 c.key key)/\∀e∈b,iK key e.key:=by
 obtain⟨a,b,hl,hf,ha,hb⟩:=EJ hp key;unfold bw
 rcases hb with⟨h1,c,b',rfl,hc,hb'⟩|⟨h1,hb⟩
 .rw[U8 h1];exact⟨a,c,b',hl,hf,λ_=>by rw[hc];exact TM _,hb'⟩
 .rw[U9 (by rw[h1];simp),hf]
  rcases vk a with rfl|⟨a',c,rfl⟩
  .cases b with
   |nil=>exact eq hl hn
   |cons c b'=>exact⟨[],c,b',hl,rfl,λh=>eq rfl h,λe he=>hb e (aH _ he)⟩
  .refine⟨a',c,b,by rw[hl];simp,lw,λ_=>vR (ha c lw),hb⟩
def fr_of{h:Nat}{a b:List E}{c:E}(hd:jO v p=(false,l,0))(hb:aw l<=223)(hk:blank false l=l)(d:vT (nL v h) (iT v h) l)(hl:l=a++c::b)(hp:l.Pairwise λc e=>iK c.key e.key):
  ZM v h ⟨p,false,l,a.length⟩ c.bh a c b:=by
 have Kr:=d.lo;have VC:=d.hi;have hc:=d.c;rw[hl,eH,eT]at Kr hp;refine⟨rfl,hd,hb,hk,hl,rfl,rfl,λe he=>?_,?_,λe he x hx=>Kr.2.2 e he c (ie ..) x hx,λe he x hx=>?_,λe he x hx=>?_,λ_ e he=>hp.2.1.1 e he⟩
 .rw[hl]at hc
  rcases aK.1 he with he|he
  .exact hc e (cL _ he)
  .exact hc e (cv _ (aH _ he))
 .rw[eH];exact⟨Kr.1,Kr.2.1.2,λx hx y hy=>Kr.2.2 x hx y (aH _ hy)⟩
 .rw[hl]at VC
  cases a with
  |nil=>exact eq he lw
  |cons z a'=>exact VC e (cL _ he) x hx
 .rw[hl]at VC
  cases a with
  |nil=>exact VC e he x hx
  |cons z a'=>exact VC e (cv _ (aH _ he)) x hx
def q9{leaf:Bool}(h:jO v p=(leaf,l,0)):l.Pairwise λc e=>iK c.key e.key:=by
 have:=MU (qZ (v:=v) (p:=p) (by rw[h]));rw[h]at this;exact this
structure WayV(v:Vw)(key:Nm)(up:List Step)(x:Step):Prop where
 hole:rp v up 0 x.au
 ok:nL v 0 x.au
 leaf:x.leaf=true
 nd:jO v x.au=(true,x.l,0)
 key:JW up key
 ne:up≠[]->x.l≠[]
 ZQ:∀e∈x.l,JW up e.key
section
variable{v:Vw}{o:Vw}{mm:Nat}
def MX(key:Nm):∀(h m:Nat) (q:QS) (p:Int) (out up:List Step) (u:Nat),h<m->Rd q v o u mm->nL v h p->rp v up h p->JW up key->(up≠[]->iT v h p≠[])->(∀x∈iT v h p,JW up x.key)->
  Rd (iG key m q p out).1 v o u mm/\(((iG key m q p out).2.2=11/\mm<=u)\/((iG key m q p out).2.2=0/\∃mid x,(iG key m q p out).2.1=out++(mid++[x])/\mid.length=h/\WayV v key (mid.reverse++up) x))
 |h,0,q,p,out,up,u,hm,hR,hO,hH,hK,hN,hI=>eq hm ls
 |h,m+1,q,p,out,up,u,hm,hR,hO,hH,hK,hN,hI=>by
  obtain⟨r1,r2⟩:=hR.read p;unfold iG
  rcases r2 with r2|⟨r2,r3⟩
  .cases h with
   |zero=>
    have hO':=hO;obtain⟨o1,o2⟩:=hO;rw[r2,o1,i8,U8 rfl];refine⟨r1,.inr ⟨rfl,[],⟨p,true,(jO v p).2.1,0⟩,lw,rfl,hH,hO',rfl,o1,hK,λfy=>?_,λe he=>?_⟩⟩
    .have:=hN fy;rw[JU]at this;exact this
    .refine hI e ?_;rw[JU];exact he
   |succ h=>
    obtain⟨o1,o2,o4,o3⟩:=hO;obtain⟨l,hl⟩:∃l,(jO v p).2.1=l:=⟨_,rfl⟩;have xL:iT v (h+1) p=cK (bW v h l):=by rw[JU,hl];rfl
    rw[hl]at o1 o2 o3 o4;have hp:=q9 o1;obtain⟨a,c,b,e1,e2,e3,e4⟩:=MW hp o3.ne key;rw[r2,o1,i8,i8,U9 o3.ne];dsimp only;have f:=fr_of o1 o2 o4 o3 e1 hp;rw[e2];have hc:l.getD a.length Nd.E.zero=c:=by rw[e1];simp[jG]
    rw[hc];have pI:∀e∈l,∀x∈iT v h e.bh,JW up x.key:=λe he x hx=>hI x (by rw[xL];exact eB.2 ⟨e,he,hx⟩);have rS:c∈l:=by rw[e1];simp
    have Kw:∀x∈iT v h c.bh,a≠[]->q8 c.key x.key:=λx hx fy=>by
     have VC:=o3.hi;rw[e1]at VC
     cases a with
     |nil=>exact eq rfl fy
     |cons z a'=>exact VC c lw x hx
    have hs2:∀x∈iT v h c.bh,∀e∈b,iK x.key e.key:=λx hx e he=>by
     have Kr:=o3.lo;rw[e1,eH,eT]at Kr;exact Kr.2.1.1 e he x hx
    obtain⟨i1,i2⟩:=MX key h m (q.aT p).1 c.bh (out++[⟨p,false,l,a.length⟩]) (⟨p,false,l,a.length⟩::up) u ls r1 (o3.c c rS).1
     ⟨⟨a,c,b,f,λe he x hx=>pI e (by rw[e1];rcases aK.1 he with he|he<;>simp[he]) x hx⟩,hH⟩ ((oq f up key).2 ⟨e3,e4,hK⟩) (λ_=>(o3.c c rS).2)
     (λx hx=>(oq f up x.key).2 ⟨Kw x hx,hs2 x hx,pI c rS x hx⟩)
    .refine⟨i1,i2.imp id ?_⟩;rintro⟨j1,mid,x,j2,j3,j4⟩;refine⟨j1,⟨p,false,l,a.length⟩::mid,x,by rw[j2];simp,by simp[j3],?_⟩;rw[List.reverse_cons,cV];exact j4
  .rw[r2,i9];exact⟨r1,.inl ⟨rfl,r3⟩⟩
def JX{q:QS}{u H:Nat}(hR:Rd q v o u mm)(hO:nL v H 0)(hH:H<=15)(key:Nm):
  Rd (q.cI key).1 v o u mm/\(((q.cI key).2.2=11/\mm<=u)\/((q.cI key).2.2=0/\∃up x,(q.cI key).2.1=up.reverse++[x]/\up.length=H/\WayV v key up x)):=by
 obtain⟨a,b⟩:=MX key H 16 q 0 [] [] u ls hR hO rfl trivial (λh=>eq rfl h) (λ_ _=>trivial);refine⟨a,b.imp id ?_⟩;rintro⟨b1,mid,x,b2,b3,b4⟩;rw[kM]at b4;exact⟨b1,mid.reverse,x,by rw[List.reverse_reverse];exact b2,by simp[b3],b4⟩
end
def ZR :∀{up:List Step} {h:Nat} {p:Int},rp v up h p->JW up key->∀x∈cK (gH v up h),iK x.key key
 |[],_,_,_,_,x,hx=>eq hx (by simp[dZ])
 |y::up,h,p,hH,hK,x,hx=>by
  obtain⟨⟨a,c,b,f,hs⟩,hU⟩:=hH;obtain⟨k1,k2,k3⟩:=(oq f up key).1 hK;simp only[dO]at hx;rw[(mB f).1,eJ,l9]at hx
  rcases aK.1 hx with hx|hx
  .exact ZR hU k3 x hx
  .obtain⟨e,he,hx⟩:=eB.1 hx;exact iI (f.la e he x hx) (k1 (λh0=>by rw[h0]at he;simp at he))
def TN :∀{up:List Step} {h:Nat} {p:Int},rp v up h p->JW up key->∀x∈cK (dY v up h),iK key x.key
 |[],_,_,_,_,x,hx=>eq hx (by simp[dg])
 |y::up,h,p,hH,hK,x,hx=>by
  obtain⟨⟨a,c,b,f,hs⟩,hU⟩:=hH;obtain⟨k1,k2,k3⟩:=(oq f up key).1 hK;simp only[de]at hx;rw[(mB f).2.1,eJ]at hx
  rcases aK.1 hx with hx|hx
  .obtain⟨e,he,hx⟩:=eB.1 hx;exact iI (k2 e he) (f.hb e he x hx)
  .exact TN hU k3 x hx
def EK{up:List Step}{x:Step}(k:WayV v key up x):nL v up.length 0/\aS v up.length 0=gH v up 0++(0,x.au,x.l)::dY v up 0/\
  (∀e∈cK (gH v up 0),iK e.key key)/\(∀e∈cK (dY v up 0),iK key e.key)/\iT v up.length 0=cK (gH v up 0)++(x.l++cK (dY v up 0)):=by
 have hl:iT v 0 x.au=x.l:=by rw[JU,k.nd];rfl
 obtain⟨a,b⟩:=plug up 0 x.au k.hole k.ok (by rw[hl];exact k.ne) (by rw[hl];exact k.ZQ);rw[bV]at a b;have e:aS v 0 x.au=[(0,x.au,x.l)]:=by unfold aS;rw[k.nd]
 rw[e]at b;refine⟨a,b,ZR k.hole k.key,TN k.hole k.key,?_⟩;unfold iT;rw[b,eJ,wG,Q4]
variable{l la lb:List E}{v:Vw}{h:Nat}
def MY(l:List E):∀j,∃t pz,Nd.uu l j t pz
 |0=>⟨1,-1,.inl ⟨rfl,rfl,rfl⟩⟩
 |j+1=>by
  obtain⟨t,pz,h⟩:=MY l j
  by_cases h1:pz<0\/Nd.lO l (j+1)<pz
  .exact⟨_,_,Nd.Hr h rfl h1⟩
  .exact⟨_,_,Nd.Hs h rfl (λh2=>h1 (.inl h2)) (λh2=>h1 (.inr h2))⟩
def best_ex(l:List E)(m:Nat)(h:2<=m):∃t,Nd.zg l m t:=by
 obtain⟨t,pz,h1⟩:=MY l (m-1)
 rcases h1 with⟨h1,_⟩|⟨h1,h2,_⟩
 .omega
 .rw[show m-1+1=m by omega]at h2;exact⟨t,h2⟩
def fJ(a b:List E):aw (a++b)=aw a+aw b:=by simp[aw]
def fI(e:E)(b:List E):aw (e::b)=e.key.size+e.val.size+7+aw b:=by simp[aw]
def VW(hc:∀e∈l,Nd.cost e<=79)(hT:223<aw l)(hT2:aw l<=302):
  ∃la lb,l=la++lb/\l.take (aZ l)=la/\l.drop (aZ l)=lb/\la≠[]/\lb≠[]/\aw la<=223/\aw lb<=223/\(aw la-151)+(aw lb-151)+73<=aw l-151:=by
 have hn:2<=l.length:=by
  match l,hc,hT with
  |[],_,hT=>exact eq hT (by simp[aw])
  |[e],hc,hT=>
   have:=hc e lw;unfold Nd.cost at this;rw[fI]at hT;have:aw []=0:=rfl;omega
  |_::_::_,_,_=>simp
 obtain⟨t,hB⟩:=best_ex l l.length hn;have ht:=Nd.TE hB;obtain⟨f1,f2⟩:=Nd.VG hc hn hT2 hB;obtain⟨i,h1,h2,h3⟩:=Nd.Ht l hc hn;have h4:=hB.2.2.1 i h1 h2;have h5:=Nd.Ay l t;have hb:=hB.2.1;have ha:=hB.1;refine⟨l.take t,l.drop t,(mo _ _).symm,by rw[ht],by rw[ht],λh=>?_,λh=>?_,f1,f2,?_⟩
 .have:=congrArg List.length h;rw[bY]at this;have:min t l.length=0:=this;omega
 .have:=congrArg List.length h;rw[ef]at this;have:l.length-t=0:=this;omega
 .have h6:Nd.lO l t<=79:=Int.le_trans h4 h3;simp only[Nd.lO]at h6;omega
def ZT{C:Int->Prop}{en:Int->List E}(d:vT C en (la++lb))(ha:la≠[])(hb:lb≠[]):vT C en la/\vT C en lb/\
  (∀e∈la,∀x∈en e.bh,iK x.key (keyOf lb))/\∀e∈lb,∀x∈en e.bh,q8 (keyOf lb) x.key:=by
 obtain⟨ne,c,lo,hi⟩:=d
 cases la with
 |nil=>exact eq rfl ha
 |cons a la=>
  cases lb with
  |nil=>exact eq rfl hb
  |cons b lb=>
   have hk:keyOf (b::lb)=b.key:=rfl;rw[hk];rw[eH]at lo;rw[oZ,mj]at hi;have Bd:=hi b lw;refine⟨⟨ha,λe he=>c e (cL _ he),lo.1,λe he=>hi e (cL _ he)⟩,⟨hb,λe he=>c e (cv _ he),lo.2.1,λe he=>hi e (cv _ (aH _ he))⟩,λe he=>lo.2.2 e he b lw,λe he x hx=>?_⟩
   rcases ax.1 he with rfl|he
   .exact Bd x hx
   .obtain⟨y,hy⟩:=ym _ (c b lw).2;have h1:=(eT.1 lo.2.1).1 e he y hy;exact p7 (vR (kh (Bd y hy) h1)) (hi e (by simp[he]) x hx)
def zz(v:Vw)(h:Nat)(a b:List E):iP v h (a++b)=iP v h a++iP v h b:=by
 cases h with
 |zero=>rfl
 |succ h=>show cK _=cK _++cK _;rw[iY,eJ]
def nN(v:Vw)(h:Nat)(a b:List E):cZ v h (a++b)=cZ v h a++cZ v h b:=by
 cases h with
 |zero=>rfl
 |succ h=>exact iY _ _ _ _
def nO(k:ix v h l)(hn:l≠[]):iP v h l≠[]:=by
 cases h with
 |zero=>exact hn
 |succ h=>
  cases l with
  |nil=>exact eq rfl hn
  |cons e l=>
   intro h0;have h0:cK (bW v h (e::l))=[]:=h0;rw[ia,eJ,OR]at h0;exact(k.2.c e lw).2 h0.1
def vU(k:ix v h (la++lb))(ha:la≠[])(hb:lb≠[]):ix v h la/\ix v h lb/\(∀x∈iP v h la,iK x.key (keyOf lb))/\(∀x∈iP v h lb,q8 (keyOf lb) x.key)/\(keyOf lb).size<=32:=by
 have hr:=k.1;have xM:(keyOf lb).size<=32:=by
  cases lb with
  |nil=>exact eq rfl hb
  |cons b lb=>exact(hr b lw).1
 cases h with
 |zero=>
  have hp:(la++lb).Pairwise λc e=>iK c.key e.key:=k.2;rw[eH]at hp;refine⟨⟨λe he=>hr e (cL _ he),hp.1⟩,⟨λe he=>hr e (cv _ he),hp.2.1⟩,λx hx=>?_,λx hx=>?_,xM⟩
  .cases lb with
   |nil=>exact eq rfl hb
   |cons b lb=>exact hp.2.2 x hx b lw
  .cases lb with
   |nil=>exact eq rfl hb
   |cons b lb=>
    rcases ax.1 hx with rfl|hx
    .exact TM _
    .exact vR ((eT.1 hp.2.1).1 x hx)
 |succ h=>
  obtain⟨p1,p2,p3,p4⟩:=ZT k.2 ha hb;refine⟨⟨λe he=>hr e (cL _ he),p1⟩,⟨λe he=>hr e (cv _ he),p2⟩,λx hx=>?_,λx hx=>?_,xM⟩
  .obtain⟨e,he,hx⟩:=eB.1 hx;exact p3 e he x hx
  .obtain⟨e,he,hx⟩:=eB.1 hx;exact p4 e he x hx
def Q7(k:ix v h l):ix v h (blank (decide (h=0)) l):=by
 cases h with
 |zero=>exact(ma l).symm▸k
 |succ h=>
  refine⟨λe he=>?_,ZK.2 k.2⟩;have he:e∈blank false l:=he
  cases l with
  |nil=>exact eq he (by simp[blank])
  |cons c l=>
   have hb:blank false (c::l)={c with key:=⟨#[]⟩}::l:=rfl;rw[hb]at he
   rcases ax.1 he with rfl|he
   .obtain⟨a,b,cc⟩:=k.1 c lw;exact⟨bG _,b,cc⟩
   .exact k.1 e (by simp[he])
def MZ(v:Vw)(h:Nat)(l:List E):cZ v h (blank (decide (h=0)) l)=cZ v h l:=by
 cases h with
 |zero=>rfl
 |succ h=>exact EI _ _ _ _
def M6(v:Vw)(h:Nat)(l:List E):iP v h (blank (decide (h=0)) l)=iP v h l:=by
 cases h with
 |zero=>exact ma l
 |succ h=>show cK _=cK _;exact congrArg cK (EI _ _ _ _)
def Q8(leaf:Bool)(l:List E):blank leaf (blank leaf l)=blank leaf l:=by cases leaf<;>cases l<;>rfl
def xN{p:Int}(k:ix v h l)(hb:aw (blank (decide (h=0)) l)<=223)(hd:jO v p=(decide (h=0),blank (decide (h=0)) l,0)):
  nL v h p/\aS v h p=(h,p,blank (decide (h=0)) l)::cZ v h l/\iT v h p=iP v h l:=by
 refine⟨list_ok hd hb (Q8 _ _) (Q7 k),?_,?_⟩
 .rw[oX,hd,MZ]
 .rw[JU,hd,M6]
def xO(k:ix v h l)(hb:aw (blank (decide (h=0)) l)<=223):(bM (decide (h=0)) l).2=0:=by
 rcases pZ (decide (h=0)) l with h1|h1|h1
 .exact h1.2.2.1
 .omega
 .exact eq (MV k) h1.1
def Q9(k:ix v h l)(hb:223<aw (blank (decide (h=0)) l)):bM (decide (h=0)) l=([],11):=by
 rcases pZ (decide (h=0)) l with h1|h1|h1
 .omega
 .exact h1.2.2
 .exact eq (MV k) h1.1
def JY :∀(h:Nat) (p:Int),nL v h p->∀j∈cf (aS v h p),(v j).2=0
 |0,p,ho,j,hj=>by
  have:j=p:=by simpa [aS]using hj
  subst this;exact om (by rw[ho.1])
 |h+1,p,ho,j,hj=>by
  unfold aS at hj;rw[dN]at hj
  rcases ax.1 hj with rfl|hj
  .exact om (by rw[ho.1])
  .simp only[cf,dq,oI]at hj;obtain⟨n,⟨c,hc,hn⟩,rfl⟩:=hj;exact JY h c.bh (ho.2.2.2.c c hc).1 _ (dq.2 ⟨n,hn,rfl⟩)
def zA(hc:∀e∈l,nL v h e.bh):∀j∈cf (bW v h l),(v j).2=0:=λj hj=>by
 unfold bW at hj;simp only[cf,dq,oI]at hj;obtain⟨n,⟨c,hc',hn⟩,rfl⟩:=hj;exact JY h c.bh (hc c hc') _ (dq.2 ⟨n,hn,rfl⟩)
def Ia(k:ix v h l):∀j∈cf (cZ v h l),(v j).2=0:=by
 cases h with
 |zero=>intro j hj;exact eq hj (by simp[cZ])
 |succ h=>exact zA λe he=>(k.2.c e he).1
def Ib :∀(up:List Step) (h:Nat) (p:Int),rp v up h p->(∀j∈cf (gH v up h),(v j).2=0)/\∀j∈cf (dY v up h),(v j).2=0
 |[],h,p,_=>⟨λj hj=>eq hj (by simp[dZ]),λj hj=>eq hj (by simp[dg])⟩
 |y::up,h,p,hH=>by
  obtain⟨⟨a,c,b,f,hs⟩,hU⟩:=hH;obtain⟨i1,i2⟩:=Ib up (h+1) y.au hU;obtain⟨t1,t2,t3⟩:=mB f;simp only[dO,de,dZ,dg];rw[t1,t2];refine⟨λj hj=>?_,λj hj=>?_⟩
  .rw[dK,dN]at hj
   rcases aK.1 hj with hj|hj
   .exact i1 j hj
   .rcases ax.1 hj with rfl|hj
    .exact om (by rw[f.nd])
    .exact zA (λe he=>(f.ch e (cL _ he)).1) j hj
  .rw[dK]at hj
   rcases aK.1 hj with hj|hj
   .exact zA (λe he=>(f.ch e (cv _ he)).1) j hj
   .exact i2 j hj
def js{v':Vw}:∀(up:List Step) (h:Nat) (p:Int),rp v up h p->(∀j∈cf (gH v up h),v' j=v j)->(∀j∈cf (dY v up h),v' j=v j)->rp v' up h p/\gH v' up h=gH v up h/\dY v' up h=dY v up h
 |[],h,p,hH,_,_=>⟨hH,rfl,rfl⟩
 |y::up,h,p,hH,h1,h2=>by
  obtain⟨⟨a,c,b,f,hs⟩,hU⟩:=hH;obtain⟨t1,t2,t3⟩:=mB f;simp only[dO]at h1;simp only[de]at h2;rw[t1,dK,dN]at h1;rw[t2,dK]at h2;obtain⟨i1,i2,i3⟩:=js up (h+1) y.au hU (λj hj=>h1 j (cL _ hj)) (λj hj=>h2 j (cv _ hj));obtain⟨ka,kb⟩:=jr (v:=v) (v':=v') (h:=h) (l:=a) (λj hj=>h1 j (cv _ (aH _ hj)))
  obtain⟨la,lb⟩:=jr (v:=v) (v':=v') (h:=h) (l:=b) (λj hj=>h2 j (cL _ hj));have hk:∀e∈a++b,aS v' h e.bh=aS v h e.bh/\(nL v h e.bh->nL v' h e.bh):=λe he=>(aK.1 he).elim (kb e) (lb e);have he:∀e∈a++b,iT v' h e.bh=iT v h e.bh:=λe hm=>by unfold iT;rw[(hk e hm).1]
  have hna:∀e∈a,iT v' h e.bh=iT v h e.bh:=λe hm=>he e (cL _ hm);have TO:∀e∈b,iT v' h e.bh=iT v h e.bh:=λe hm=>he e (cv _ hm);have hny:jO v' y.au=jO v y.au:=zu (h1 _ (cv _ (ie ..)))
  refine⟨⟨⟨a,c,b,⟨f.leaf,by rw[hny];exact f.nd,f.by_,f.bk,f.l,f.at_,f.bh,λe hm=>⟨(hk e hm).2 (f.ch e hm).1,by rw[he e hm];exact(f.ch e hm).2⟩,?_,λe hm x hx=>f.la e hm x (by rw[<-hna e hm];exact hx),λe hm x hx=>f.ha e hm x (by rw[<-hna e (wE hm)];exact hx),λe hm x hx=>f.hb e hm x (by rw[<-TO e hm];exact hx),f.hc⟩,λe hm x hx=>hs e hm x (by rw[<-he e hm];exact hx)⟩,i1⟩,?_,?_⟩
  .refine List.Pairwise.imp_of_mem ?_ f.lo;intro x y hx hy hxy z hz;rw[he x hx]at hz;exact hxy z hz
  .simp only[dO,dZ];rw[t1,i2,ka]
  .simp only[de,dg];rw[t2,i3,la]
def fj(wt:Nat->Nat)(ns:List NT):Nat:=(ns.map λn=>wt n.1*(aw n.2.2-151)).sum
@[simp] theorem ZU(wt:Nat->Nat):fj wt []=0:=rfl
@[simp] theorem kG(wt:Nat->Nat)(a b:List NT):fj wt (a++b)=fj wt a+fj wt b:=by simp[fj]
@[simp] theorem fK(wt:Nat->Nat)(n:NT)(a:List NT):fj wt (n::a)=wt n.1*(aw n.2.2-151)+fj wt a:=by simp[fj]
def Rc(wt:Nat->Nat)(c:Nat):Prop:= ∀i,39*wt (i+1)+c<=73*wt i
def Rf(a:List E)(c n:E)(b:List E):(a++c::b).insertIdx (a.length+1) n=a++c::n::b:=by
 induction a with
 |nil=>rfl
 |cons x a ih=>rw[oZ,jh,Pj,ih];rfl
def zB(a:List E)(c:E)(b:List E):(a++c::b).eraseIdx a.length=a++b:=by
 induction a with
 |nil=>rfl
 |cons x a ih=>rw[oZ,jh,List.eraseIdx_cons_succ,ih];rfl
end Sh
end Go.Proofs.YtmonobkginiajaaGreat
