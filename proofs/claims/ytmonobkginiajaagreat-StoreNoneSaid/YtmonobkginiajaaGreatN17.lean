/- packed. -/
import Derived.Test.YtmonobkginiajaaGreatN15
import Derived.Test.YtmonobkginiajaaGreatN16
import Derived.Lib.Overlaps
import Derived.Lib.SliceRun
import Derived.Lib.AppendZerosOnto
import Derived.Test.YtmonobkginiajaaGreatN12
import Derived.WalkMore
set_option linter.all false
set_option maxRecDepth 100000
set_option maxHeartbeats 8000000
namespace Go.Proofs.YtmonobkginiajaaGreat
open Go.RowKit
noncomputable def rn(P:Program)(T T' ty:TypeId)(w:World)(d s:Value):Result Value:=(Builtin.copy_ #[T,T'] ty #[d,s]).run P w
theorem yP(P:Program)(ρ:Operand->Value)(dst:Option Tmp)(d s:Operand)(T T' t:TypeId)(p:String)(af:Array Edge)(g:Option (Nat×Bool))(w:World):
  (execOp ρ {dst:=dst,op:= .call {callee:= .builtin .copy,args:= #[d,s],argTypes:= #[T,T']},type:=t,pos:=p,after:=af,guard:=g}).run P w=(rn P T T' t w (ρ d) (ρ s)).andThen λv w'=> .ok (.value v) w':=by
 simp[execOp,resolve,invoke,builtin,rn]
noncomputable def oE(P:Program)(T ty:TypeId)(w:World)(s:Value):Result Value:=(Builtin.clear_ #[T] ty #[s]).run P w
theorem I8(P:Program)(ρ:Operand->Value)(dst:Option Tmp)(s:Operand)(T t:TypeId)(p:String)(af:Array Edge)(g:Option (Nat×Bool))(w:World):
  (execOp ρ {dst:=dst,op:= .call {callee:= .builtin .clear,args:= #[s],argTypes:= #[T]},type:=t,pos:=p,after:=af,guard:=g}).run P w=(oE P T t w (ρ s)).andThen λv w'=> .ok (.value v) w':=by
 simp[execOp,resolve,invoke,builtin,oE]
theorem oF{P:Program}{w:World}{g:Nat}{t:TypeId}{cur:List Value}(B:az w g t cur.toArray)(T ty elem:TypeId)(sz o nQ rH:Nat)(a:Addr)(An sCap:Nat)(cs:List Value)
  (hu:P.underlying T=some (.slice elem))(hs:(P.info? elem).map (·.size)=some sz)(hn:cs.length=Nat.min An nQ*sz)
  (Gh:∀j v,cs[j]?=some v->w.cell? (a.add j)=some v)(pe:o+cs.length<=cur.length)(h1:∀v∈cs,v.oneCell'=true):
  ∃w',rn P T T ty w (.slice (some ⟨g,o,none⟩) nQ rH) (.slice (some a) An sCap)= .ok (goInt (Nat.min An nQ)) w'/\az w' g t (putAt cur o cs).toArray/\ag [g] w w':=by
 refine⟨w.setCells g o cs,?_,B.setCells cs o pe,(ag.refl _ _).setCells cs o (by simp)⟩;have hl:=run_loadCells_list (P:=P) w a cs Gh;have oQ:=run_storeCells_cells (P:=P) g o cs 0 w (by intro j hj;rw[B.cell];simp;omega) (by intro j hj;exact B.frozen _ (by simp;omega)) h1
 cases hq:P.info? elem with
 |none=>simp[hq]at hs
 |some i=>
  have hi:i.size=sz:=by simpa [hq]using hs
  simp[rn,Builtin.copy_,run_underlying hu,Builtin.lenOf,Builtin.firstCells,sizeOf,typeInfo,hq,hi,<-hn,hl,oQ]
theorem vr{P:Program}{w:World}{g:Nat}{t:TypeId}{cur:List Value}(B:az w g t cur.toArray)(T ty elem:TypeId)(sz n cap:Nat)(a:Addr)(m c:Nat)(cs:List Value)
  (hu:P.underlying T=some (.slice elem))(hs:(P.info? elem).map (·.size)=some sz)(hn:cs.length=m*sz)
  (Gh:∀j v,cs[j]?=some v->w.cell? (a.add j)=some v)(hr:n+m<=cap)(pe:n*sz+cs.length<=cur.length)(h1:∀v∈cs,v.oneCell'=true):
  ∃w',dG P T ty w (.slice (some ⟨g,0,none⟩) n cap) (.slice (some a) m c)= .ok (.slice (some ⟨g,0,none⟩) (n+m) cap) w'/\az w' g t (putAt cur (n*sz) cs).toArray/\ag [g] w w':=by
 cases hq:P.info? elem with
 |none=>simp[hq]at hs
 |some i=>
  have hi:i.size=sz:=by simpa [hq]using hs
  subst hi;have h:=run_append_room_cells (P:=P) w T ty elem i hu hq g 0 n cap a m c cs hn Gh h1 hr (λj hj=>by rw[B.cell];simp;omega) (λj hj=>B.frozen _ (by simp;omega));rw[bu]at h;exact⟨_,h,B.setCells cs _ pe,(ag.refl _ _).setCells cs _ (by simp)⟩
theorem vu{P:Program}{w:World}{g:Nat}{t:TypeId}{cur:List Value}(B:az w g t cur.toArray)(T ty elem:TypeId)(z:Value)(o c:Nat)
  (hu:P.underlying T=some (.slice elem))(hz:∀w,(zeroValue elem).run P w=.ok z w)(pe:o+z.cells.toList.length<=cur.length)(h1:∀v∈z.cells.toList,v.oneCell'=true):
  ∃w',oE P T ty w (.slice (some ⟨g,o,none⟩) 1 c)= .ok (.tuple #[]) w'/\az w' g t (putAt cur o z.cells.toList).toArray/\ag [g] w w':=by
 refine⟨w.setCells g o z.cells.toList,?_,B.setCells _ o pe,(ag.refl _ _).setCells _ o (by simp)⟩;have hzc:(Builtin.zeroCells z.cells 1).toList=z.cells.toList:=by
  simp[Builtin.zeroCells];apply rC
  .simp
  .intro i h1 h2;have:i<z.cells.size:=by simpa using h2
   simp[Nat.mod_eq_of_lt this];rw[getElem!_pos z.cells i this]
 have oQ:=run_storeCells_cells (P:=P) g o z.cells.toList 0 w (by intro j hj;rw[B.cell];simp at hj pe ⊢;omega) (by intro j hj;exact B.frozen _ (by simp at hj pe ⊢;omega)) h1;simp only[iD]at oQ;simp[oE,Builtin.clear_,run_underlying hu,hz,hzc,oQ]
namespace Nd
open Sl
section
attribute [local go_sem ↓] Go.wp_at_zero Go.wp_at_succ aW yP I8
theorem ku:(Tryz.prog.info? 111).map (·.size)=some 3:=by kernel_rfl
theorem ents_cells(l:List E):∀v∈ax l,v.oneCell'=true:=iP l
theorem ents_drop1(l:List E)(k:Nat)(rest:List Value):(ax l++rest).drop (k*3)=if k<=l.length then ax (l.drop k)++rest else rest.drop ((k-l.length)*3):=by
 split
 .rw[vK (by rw[al];omega),js]
 .rename_i h;rw[List.drop_append,jY (by rw[al];omega),eA,al]
  congr 1
  omega
theorem E3(l:List E)(rest:List Value)(i:Nat)(hi:i<l.length)(z:List Value)(hz:z.length=3):
  putAt (putAt (ax l++rest) (i*3) (ax (l.drop (i+1)))) ((l.length-1)*3) z=ax (l.eraseIdx i)++(z++rest):=by
 have e1:putAt (ax l++rest) (i*3) (ax (l.drop (i+1)))=ax (l.eraseIdx i)++(ax (l.drop (l.length-1))++rest):=by
  unfold putAt;rw[lX (by rw[al];omega),pT,al,dg,show i*3+(l.length-(i+1))*3=(l.length-1)*3 by omega,
   vK (by rw[al];omega),js,<-eH,<-List.eraseIdx_eq_take_drop_succ]
 have e2:(ax (l.eraseIdx i)).length=(l.length-1)*3:=by rw[al,List.length_eraseIdx];split<;>omega
 have e3:(ax (l.drop (l.length-1))).length=3:=by rw[al,dg];omega
 rw[e1];unfold putAt;rw[hz,<-e2,lY,cN,<-fY,mS,<-e3,mS]
theorem yQ{w:World}{A:Option Addr}{n c:Nat}{l:List E}(S:aQ w 111 3 (.slice A n c) n (ax l))(i:Nat)(hi:i<n)(hn:n<=100000):
  Calls Tryz.prog 72 #[.slice A n c,.int .i64 (i:Nat),.int .i64 ((i:Int)+1)] w λe w'=>e=.returned (.slice A (n-1) c)/\aQ w' 111 3 (.slice A (n-1) c) (n-1) (ax (l.eraseIdx i))/\ag (ah (.slice A n c)) w w':=by
 obtain⟨g,cap,rest,hv,BG,hcn,I3⟩:=S.form (by omega) (by omega);simp only[Value.slice.injEq,true_and]at hv;obtain⟨rfl,rfl⟩:=hv;have xD:c<=maxLen:=by obtain⟨_,_,_,_,h⟩:=S.oR;exact h
 have mM:l.length=n:=by have:=S.1;rw[al]at this;omega
 have lk:=xh mM;have FZ:=xh (show rest.length=c*3-n*3 by rw[al,mM]at I3;omega);have BD:=xh BG;clear S mM I3 BG;unfold maxLen at xD;have s1:(i:Int)<=(i:Int)+1:=by omega
 have s2:(i:Int)+1<=(n:Int):=by omega
 have s3:(n:Int)<=(c:Int):=by omega
 have s4:((i:Int)+1).toNat=i+1:=by omega
 have s5:¬(i:Int)=(i:Int)+1:=by omega
 have s6:(0:Int)<=(i:Int)+1:=by omega
 have s7:(i:Int)<=(n:Int):=by omega
 have s8:(i:Int)<=(c:Int):=by omega
 have s9:(i:Int)+1<=(c:Int):=by omega
 have s10:¬c=i:=by omega
 have s12:n-(n-1)=1:=by omega
 go_enter Tryz.func72,Tryz.ntmps72;go_wp2_with fail;have tu:=xh (show(n-1)*3+(Value.agg #[.string ⟨#[]⟩,.string ⟨#[]⟩,.int .i64 0]).cells.toList.length<=(putAt (ax l++rest) (i*3) (ax (l.drop (i+1)))).length from by
  rw[gJ (by rw[al,dg,aU,al,lk.o,FZ.o];omega),aU,al,lk.o,FZ.o];show(n-1)*3+3<=_;omega)
 have HDC:=xh (show putAt (putAt (ax l++rest) (i*3) (ax (l.drop (i+1)))) ((n-1)*3) (Value.agg #[.string ⟨#[]⟩,.string ⟨#[]⟩,.int .i64 0]).cells.toList=ax (l.eraseIdx i)++((Value.agg #[.string ⟨#[]⟩,.string ⟨#[]⟩,.int .i64 0]).cells.toList++rest)from by
  have:=E3 l rest i (by rw[lk.o];exact hi) (Value.agg #[.string ⟨#[]⟩,.string ⟨#[]⟩,.int .i64 0]).cells.toList rfl;rw[lk.o]at this;exact this)
 have Dm:=xh (show(l.eraseIdx i).length=n-1 from by rw[List.length_eraseIdx,lk.o,if_pos hi]);have HRL:=xh (show(ax (l.eraseIdx i)).length+((Value.agg #[.string ⟨#[]⟩,.string ⟨#[]⟩,.int .i64 0]).cells.toList++rest).length=c*3 from by
  rw[al,Dm.o,aU,FZ.o];show(n-1)*3+(3+(c*3-n*3))=c*3;omega)
 have HCM:=xh xD;have E4:∀(a:Addr),(i+1<n->a=⟨g,(i+1)*3,none⟩)->∀j v,(ax (l.drop (i+1)))[j]?=some v->w.drew.cell? (a.add j)=some v:=λa ha j v hv=>by
  have hl:i+1<n:=by
   have:=(aR.1 hv).1;rw[al,dg,lk.o]at this;omega
  rw[ha hl,gU];refine(BD.o.drew.cell _).trans ?_;rw[<-js,gF]at hv;rw[cW,bx (aR.1 hv).1,hv]
 by_cases FW:c=i+1
 .have s11:c-(i+1)=0:=by omega
  have HN:=xh (show n=i+1 by omega)
  replace FW:=xh FW
  refine wp_region_held_drew (S:=λ_=>True) (by kernel_rfl) (trivial) (λaw=>?_);refine dq [(0,20),(1,21),(2,22),(3,23),(4,24),(5,25)] ?_
  iterate 6 refine za ?_
  refine zd 6 26 λK hK=>?_;go_simp;obtain⟨w2,ea,B2,oa⟩:=vr (P:=Tryz.prog) BD.o.drew 108 108 111 3 i c ⟨g,0,none⟩ (n-(i+1)) 0 (ax (l.drop (i+1))) Tryz.underlying108 ku (by rw[al,dg,lk.o]) (E4 _ (λh=>by first|rfl|(have:=HN.o;omega))) (by omega) (by rw[al,dg,lk.o];simp only[aU,al,lk.o];have:=FZ.o;omega) (iP _);rw[show i+(n-(i+1))=n-1 by omega]at ea;have EA:=xh ea
  have B2:=xh B2;have OA:=xh oa;clear ea oa;rw[if_pos FW.o,EA.o];go_simp;refine zh hK (trivial) (λaw=>?_);refine dq [(7,0)] ?_
  iterate 1 refine za ?_
  refine wpAnyH_done (by kernel_rfl) ?_ _;have B2c:=B2.o;obtain⟨w3,ec,B3,oc⟩:=vu (P:=Tryz.prog) B2c 108 0 111 (.agg #[.string ⟨#[]⟩,.string ⟨#[]⟩,.int .i64 0]) ((n-1)*3) (c-(n-1)) Tryz.underlying108 Tryz.zeroValue111 tu.o (by simp;decide);rw[HDC.o]at B3;have EC:=xh ec;have B3:=xh B3;have OC:=xh (OA.o.trans oc);clear ec oc B2c;go_wp2_with fail;rw[EC.o];go_wp2_with fail;go_ret
  exact⟨by first|rfl|simp,⟨by rw[al,Dm.o],.inr ⟨g,c,_,rfl,B3.o,by rw[HRL.o],HCM.o⟩⟩,by simpa [ah]using (ag.refl [g] w).drew.trans OC.o⟩
 .have s11:¬c=i+1:=FW;refine wp_region_held_drew (S:=λ_=>True) (by kernel_rfl) (trivial) (λaw=>?_);refine dq [(0,20),(1,21),(2,22),(3,23),(4,24),(5,25)] ?_
  iterate 6 refine za ?_
  refine zd 6 26 λK hK=>?_;go_simp;obtain⟨w2,ea,B2,oa⟩:=vr (P:=Tryz.prog) BD.o.drew 108 108 111 3 i c ⟨g,(i+1)*3,none⟩ (n-(i+1)) (c-(i+1)) (ax (l.drop (i+1))) Tryz.underlying108 ku (by rw[al,dg,lk.o]) (E4 _ (λh=>by first|rfl|(have:=HN.o;omega))) (by omega) (by rw[al,dg,lk.o];simp only[aU,al,lk.o];have:=FZ.o;omega) (iP _);rw[show i+(n-(i+1))=n-1 by omega]at ea
  have EA:=xh ea;have B2:=xh B2;have OA:=xh oa;clear ea oa;rw[EA.o];go_simp;refine zh hK (trivial) (λaw=>?_);refine dq [(7,0)] ?_
  iterate 1 refine za ?_
  refine wpAnyH_done (by kernel_rfl) ?_ _;have B2c:=B2.o;obtain⟨w3,ec,B3,oc⟩:=vu (P:=Tryz.prog) B2c 108 0 111 (.agg #[.string ⟨#[]⟩,.string ⟨#[]⟩,.int .i64 0]) ((n-1)*3) (c-(n-1)) Tryz.underlying108 Tryz.zeroValue111 tu.o (by simp;decide);rw[HDC.o]at B3;have EC:=xh ec;have B3:=xh B3;have OC:=xh (OA.o.trans oc);clear ec oc B2c;go_wp2_with fail;rw[EC.o];go_wp2_with fail;go_ret
  exact⟨by first|rfl|simp,⟨by rw[al,Dm.o],.inr ⟨g,c,_,rfl,B3.o,by rw[HRL.o],HCM.o⟩⟩,by simpa [ah]using (ag.refl [g] w).drew.trans OC.o⟩
theorem my:(Tryz.prog.info? 111).map (λi=>(i.zero,i.size,i.bytes))=some (some (.agg #[.string ⟨#[]⟩,.string ⟨#[]⟩,.int .i64 0]),3,40):=by kernel_rfl
theorem pW(e:E):∀v∈e.cells,v.oneCell'=true:=λv hv=>by
 have:=iP [e] v (by simpa [ax]using hv);exact this
theorem rp{α:Type}(e:α):∀(l:List α) (i:Nat),i<=l.length->l.insertIdx i e=l.take i++e::l.drop i
 |_,0,_=>by simp
 |[],i+1,h=>absurd h (by simp)
 |a::l,i+1,h=>by
  rw[Ai,rp e l i (by simpa using h)];rfl
theorem I9(l:List E)(e:E)(rest:List Value)(i:Nat)(hi:i<=l.length)(hr:3<=rest.length):
  putAt (putAt (ax l++rest) ((i+1)*3) (ax (l.drop i))) (i*3) e.cells=ax (l.insertIdx i e)++rest.drop 3:=by
 have e0:e.cells.length=3:=rfl;have e1:l.insertIdx i e=l.take i++e::l.drop i:=rp e l i hi;have e2:(ax (l.take i)).length=i*3:=by rw[al,cE];omega
 have e3:(ax (l.drop i)).length=(l.length-i)*3:=by rw[al,dg]
 have e5:(ax l++rest)=ax (l.take i)++(ax (l.drop i)++rest):=by rw[<-cN,<-eH,jM]
 have hlen:(ax l++rest).length=l.length*3+rest.length:=by rw[aU,al]
 have a1:(putAt (ax l++rest) ((i+1)*3) (ax (l.drop i))).take (i*3)=ax (l.take i):=by
  unfold putAt;rw[cN,lX (by rw[cE,hlen];omega),List.take_take,qX (by omega),e5,<-e2,lY]
 have a2:(putAt (ax l++rest) ((i+1)*3) (ax (l.drop i))).drop (i*3+3)=ax (l.drop i)++rest.drop 3:=by
  unfold putAt;rw[cN,show i*3+3=((ax l++rest).take ((i+1)*3)).length by rw[cE,hlen];omega,mS]
  congr 1
  rw[e3,List.drop_append,jY (by rw[al];omega),eA,al]
  congr 1
  omega
 rw[e1,eH,ir,cN,cN,<-a1,<-a2,show putAt (putAt (ax l++rest) ((i+1)*3) (ax (l.drop i))) (i*3) e.cells=(putAt (ax l++rest) ((i+1)*3) (ax (l.drop i))).take (i*3)++e.cells++(putAt (ax l++rest) ((i+1)*3) (ax (l.drop i))).drop (i*3+e.cells.length)from rfl,e0,cN]
theorem yR{w:World}{A:Option Addr}{n c:Nat}{l:List E}(S:aQ w 111 3 (.slice A n c) n (ax l))(e:E){g2 cc:Nat}(B2:az w g2 111 e.cells.toArray)(hn:n<=100000):
  Calls Tryz.prog 74 #[.slice A n c,.int .i64 (n:Nat),.slice (some ⟨g2,0,none⟩) 1 cc] w λr w'=> ∃A' c',r=.returned (.slice A' (n+1) c')/\aQ w' 111 3 (.slice A' (n+1) c') (n+1) (ax (l++[e]))/\ag (ah (.slice A n c)) w w'/\∀x∈ah (.slice A' (n+1) c'),x∈ah (.slice A n c)\/w.heap.size<=x:=by
 obtain⟨i0,hi,jb,gW,iS⟩:=info_parts my;have hl:=S.1;rw[al]at hl;obtain⟨v',w',ea,S2,o2,f2⟩:=cQ (P:=Tryz.prog) S 108 108 i0 _ 40 Tryz.underlying108 hi jb gW iS rfl (by omega) ⟨g2,0,none⟩ 1 cc e.cells rfl (aZ (l:=e.cells) B2 0 _ (by simp)) (pW e) (by unfold maxLen;omega) (by omega);obtain⟨A',c',rfl⟩:=aq S2;have EA:=xh (show dG Tryz.prog 108 108 w (.slice A n c) (.slice (some ⟨g2,0,none⟩) 1 cc)=_ from ea);have S2:=xh S2
 have o2:=xh o2;have f2:=xh f2;have HC:A=none/\n=0/\c=0\/∃g,A=some ⟨g,0,none⟩/\n<=c/\c<=maxLen:=by
  rcases S.2 with⟨h1,h2⟩|⟨g,cap,rest,h1,h2,h3,h4⟩
  .injection h1 with a1 a2 a3
   exact .inl ⟨a1,a2,a3⟩
  .injection h1 with a1 a2 a3
   subst a3;refine .inr ⟨g,a1,?_,h4⟩;rw[al]at h3;omega
 have s1:(n:Int)<=(n:Int):=by omega
 clear S B2 ea hi jb gW iS;have HC:A=none/\n=0/\c=0\/(∃g,A=some ⟨g,0,none⟩/\c=n/\c<=maxLen)\/∃g,A=some ⟨g,0,none⟩/\¬c=n/\n<=c/\c<=maxLen:=by
  rcases HC with h|⟨g,h1,h2,h3⟩
  .exact .inl h
  .by_cases hc:c=n
   .exact .inr (.inl ⟨g,h1,hc,h3⟩)
   .exact .inr (.inr ⟨g,h1,hc,h2,h3⟩)
 rcases HC with⟨rfl,rfl,rfl⟩|⟨g,rfl,rfl,hc2⟩|⟨g,rfl,hc0,FW,hc2⟩
 all_goals
  (try have hc1I:(n:Int)<=(c:Int):=by omega)
  go_enter Tryz.func74,Tryz.ntmps74;go_wp2_with fail;rw[EA.o];go_wp2_with fail;go_ret;exact⟨A',c',by first|rfl|simp,by rw[eH];simpa [ax]using S2.o,o2.o,f2.o⟩
theorem vv{w:World}{g:Nat}{t:TypeId}{cs:Array Value}(B:az w g t cs):w.shape? g=some (t,cs.size):=by
 obtain⟨lo,hi,h,_⟩:=B;unfold World.shape?;rw[h]
theorem sz_ent(w:World):(Go.sizeOf 111).run Tryz.prog w=.ok 3 w:=by
 obtain⟨i0,hi,jb,gW,iS⟩:=info_parts my;simp[sizeOf,typeInfo,hi,gW]
theorem yS{w:World}{g1 g2:Nat}{t1 t2:TypeId}{c1 c2:Array Value}(B1:az w g1 t1 c1)(B2:az w g2 t2 c2)(eG:g1≠g2)(h0:c2.size≠0)(hc:c1.size≠0)(hz:w.frozen? ⟨g1,c1.size,none⟩=false)(o2 la ca lb cb:Nat):
  (callFunc 125 #[.slice (some ⟨g1,0,none⟩) la ca,.slice (some ⟨g2,o2,none⟩) lb cb]).run Tryz.prog w=.ok (.value (.bool false)) w:=by
 rw[run_callFunc_extern Tryz.func125 (by kernel_rfl) (by kernel_rfl) (by kernel_rfl) (e:=Extern.SlicesOverlaps.overlaps #[108,108] #[4]) (by kernel_rfl),
  Lib.run_overlaps_apart w 108 4 111 Tryz.underlying108 3 sz_ent ⟨g1,0,none⟩ ⟨g2,o2,none⟩ la ca lb cb eG t1 t2 c1.size c2.size (vv B1) (vv B2) h0 (B1.frozen 0 (by omega)) hz]
 rfl
theorem xm{w:World}{A:Option Addr}{n c:Nat}{l:List E}(S:aQ w 111 3 (.slice A n c) n (ax l))(e:E){g2 cc:Nat}(B2:az w g2 111 e.cells.toArray)(hn:n<=100000)(hg:g2∉ah (.slice A n c))(i:Nat)(hi:i<n)(hf:w.frozen? ⟨g2,3,none⟩=false)(hc:n+1<=c):
  Calls Tryz.prog 74 #[.slice A n c,.int .i64 (i:Nat),.slice (some ⟨g2,0,none⟩) 1 cc] w λr w'=> ∃A' c',r=.returned (.slice A' (n+1) c')/\aQ w' 111 3 (.slice A' (n+1) c') (n+1) (ax (l.insertIdx i e))/\ag (ah (.slice A n c)) w w'/\∀x∈ah (.slice A' (n+1) c'),x∈ah (.slice A n c)\/w.heap.size<=x:=by
 obtain⟨g,cap,rest,hv,BG,hcn,I3⟩:=S.form (by omega) (by omega);simp only[Value.slice.injEq,true_and]at hv;obtain⟨rfl,rfl⟩:=hv;have xD:c<=maxLen:=by obtain⟨_,_,_,_,h⟩:=S.oR;exact h
 have mM:l.length=n:=by have:=S.1;rw[al]at this;omega
 have lk:=xh mM;have FZ:=xh (show rest.length=c*3-n*3 by rw[al,mM]at I3;omega);have BD:=xh BG;have BE:=xh B2;have eG:g2≠g:=λh=>hg (by simp[ah,h]);have HCM:=xh xD;have Dm:=xh (show(l.insertIdx i e).length=n+1 from by rw[rD,mM,if_pos (by omega)]);unfold maxLen at xD;clear S mM I3;have s1:¬(i:Int)=(n:Int):=by omega
 have s2:(i:Int)<=(n:Int):=by omega
 have s3:(i:Int)<=(c:Int):=by omega
 have s4:¬c=i:=by omega
 have s8:IntKind.i64.wrap ((i:Int)+1)=(i:Int)+1:=IntWalk.i64_in _ (by omega);have s9:IntKind.i64.wrap ((n:Int)+1)=(n:Int)+1:=IntWalk.i64_in _ (by omega);have s10:((i:Int)+1).toNat=i+1:=by omega
 have s11:((n:Int)+1).toNat=n+1:=by omega
 have s12:(0:Int)<=(i:Int)+1:=by omega
 have s13:(0:Int)<=(n:Int)+1:=by omega
 have s14:(i:Int)+1<=(n:Int)+1:=by omega
 have s15:(i:Int)<=(n:Int)+1:=by omega
 have E4:=xh (show ∀j v,(ax (l.drop i))[j]?=some v->w.drew.cell? ((⟨g,i*3,none⟩:Addr).add j)=some v from λj v hv=>by
  rw[gU];refine(BD.o.drew.cell _).trans ?_;rw[<-js,gF]at hv;rw[cW,bx (aR.1 hv).1,hv])
 have hov:=λla ca lb cb=>yS (w:=w) B2 BG eG (by simp[al];have:=lk.o;omega) (by show 3≠0;decide) (by rw[show e.cells.toArray.size=3 from rfl];exact hf) ((i+1)*3) la ca lb cb;have s16:(n:Int)+1<=(c:Int):=by omega
 have s17:¬(c:Int)<(n:Int)+1:=by omega
 have s18:¬c=i+1:=by omega
 have s19:(i:Int)+1<=(c:Int):=by omega
 clear B2 BG hf hg;go_enter Tryz.func74,Tryz.ntmps74;go_wp2_with (simp only[hov]);refine wp_region_held_drew (S:=λ_=>True) (by kernel_rfl) (trivial) (λaw=>?_);refine dq [(0,69),(1,70),(2,71),(3,72),(4,73),(5,74),(6,75),(7,76)] ?_
 iterate 8 refine za ?_
 refine zd 8 77 λK hK=>?_;go_simp;obtain⟨w2,ea,B3,oa⟩:=oF (P:=Tryz.prog) BD.o.drew 108 3 111 3 ((i+1)*3) (n-i) (c-(i+1)) ⟨g,i*3,none⟩ (n+1-i) (c-i) (ax (l.drop i)) Tryz.underlying108 ku (by rw[al,dg,lk.o,show Nat.min (n+1-i) (n-i)=n-i from by simp only[Nat.min_def];split<;>omega]) E4.o (by rw[al,dg,aU,al,lk.o,FZ.o];omega) (iP _);have EA:=xh ea;have B3:=xh B3
 have OA:=xh oa;clear ea oa;rw[EA.o];go_simp;refine zh hK (trivial) (λaw=>?_);refine wpAnyH_done (by kernel_rfl) ?_ _;have BE3:=BE.o.drew.only OA.o (by simpa using eG)
 obtain⟨w3,eb,B4,ob⟩:=oF (P:=Tryz.prog) B3.o 108 3 111 3 (i*3) (n+1-i) (c-i) ⟨g2,0,none⟩ 1 cc e.cells Tryz.underlying108 ku (by show 3=_;rw[show Nat.min 1 (n+1-i)=1 from by simp only[Nat.min_def];split<;>omega]) (aZ (l:=e.cells) BE3 0 _ (by simp)) (by rw[gJ (by rw[al,dg,aU,al,lk.o,FZ.o];omega),aU,al,lk.o,FZ.o];show i*3+3<=_;omega) (pW e)
 rw[I9 l e rest i (by rw[lk.o];omega) (by rw[FZ.o];omega)]at B4;have EB:=xh eb;have B4:=xh B4;have OB:=xh (OA.o.trans ob);clear eb ob BE3;go_wp2_with fail;rw[EB.o];go_wp2_with fail;go_ret;exact⟨_,_,by first|rfl|simp,⟨by rw[al,Dm.o],.inr ⟨g,c,_,rfl,B4.o,by rw[al,Dm.o,dg,FZ.o];omega,HCM.o⟩⟩,by simpa [ah]using (ag.refl [g] w).drew.trans OB.o,λx hx=> .inl (by simpa [ah]using hx)⟩
noncomputable def xo(P:Program)(T U ty:TypeId)(w:World)(s x:Value):Result Value:=(Builtin.append_ #[T,U] ty #[s,x]).run P w
theorem E5(P:Program)(ρ:Operand->Value)(dst:Option Tmp)(s x:Operand)(T U t:TypeId)(p:String)(af:Array Edge)(g:Option (Nat×Bool))(w:World):
  (execOp ρ {dst:=dst,op:= .call {callee:= .builtin .append,args:= #[s,x],argTypes:= #[T,U]},type:=t,pos:=p,after:=af,guard:=g}).run P w=(xo P T U t w (ρ s) (ρ x)).andThen λv w'=> .ok (.value v) w':=by
 simp[execOp,resolve,invoke,builtin,xo]
theorem yT{w:World}{g c:Nat}{l:List E}{rest:List Value}(B:az w g 111 (ax l++rest).toArray)(i k:Nat)(hi:i<=l.length)(hk:0<k)(hc:c<i+k)(hm:i+k<=1000000):
  ∃w' G zs,xo Tryz.prog 108 3 108 w (.slice (some ⟨g,0,none⟩) i c) (.int .i64 (k:Nat))= .ok (.slice (some ⟨w.heap.size,0,none⟩) (i+k) G) w'/\az w' w.heap.size 111 (ax (l.take i)++zs).toArray/\zs.length=(G-i)*3/\i+k<=G/\G<=maxLen/\Below w.heap.size w w':=by
 obtain⟨i0,zP,jb,gW,iS⟩:=info_parts my;have hold:(Builtin.firstCells i0.size i (.slice (some ⟨g,0,none⟩) i c)).run Tryz.prog w.drew=.ok (ax (l.take i)).toArray w.drew:=by
  rw[gW];exact run_firstCells_some w.drew 3 i ⟨g,0,none⟩ i c (ax (l.take i)) (by rw[al,cE];omega) (aZ B.drew 0 _ (λj v hv=>by
   rw[bu,bx]
   .rw[<-pT,Ag]at hv
    split at hv
    .exact hv
    .cases hv
   .have:=(aR.1 hv).1;rw[al,cE]at this;rw[al];omega))
 have h:=Lib.run_append_grow_zeros w 108 3 108 111 i0 _ .i64 .i64 Tryz.underlying108 Tryz.underlying3 zP jb (some ⟨g,0,none⟩) i c (ax (l.take i)) hold k hk (by omega) hc (by omega) (by rw[iS];omega) (by rw[iS];exact growslice_fits (by omega) (by omega));have hG:=grownCap_ge w (i+k) c 111;have hG2:=grownCap_le_maxLen w (i+k) c 111 (by unfold maxLen;omega);have hzc:∀m,(Builtin.zeroCells (Value.agg #[.string ⟨#[]⟩,.string ⟨#[]⟩,.int .i64 0]).cells m).size=m*3:=λm=>by
  simp[Builtin.zeroCells,Value.cells]
 generalize grownCap w (i+k) c 111=G at *;have hA:∀(a b:Array Value),(ax (l.take i)).toArray++a++b=(ax (l.take i)++(a.toList++b.toList)).toArray:=λa b=>by
  apply mK.1;simp
 rw[hA]at h;have hzl:((Builtin.zeroCells (Value.agg #[.string ⟨#[]⟩,.string ⟨#[]⟩,.int .i64 0]).cells k).toList++(Builtin.zeroCells (Value.agg #[.string ⟨#[]⟩,.string ⟨#[]⟩,.int .i64 0]).cells (G-(i+k))).toList).length=(G-i)*3:=by
  rw[aU,Gc,Gc,hzc,hzc];omega
 generalize (Builtin.zeroCells (Value.agg #[.string ⟨#[]⟩,.string ⟨#[]⟩,.int .i64 0]).cells k).toList++(Builtin.zeroCells (Value.agg #[.string ⟨#[]⟩,.string ⟨#[]⟩,.int .i64 0]).cells (G-(i+k))).toList=ZS at *;refine⟨_,G,ZS,h,?_,hzl,hG,hG2,?_⟩
 .exact az.new w.drew 111 _
 .exact(Below.refl w.heap.size w).drew.alloc (ak _) _
theorem Ja(l:List E)(e:E)(zs:List Value)(i:Nat)(hi:i<l.length)(hz:(l.length+1-i)*3<=zs.length):
  putAt (putAt (ax (l.take i)++zs) (i*3) e.cells) ((i+1)*3) (ax (l.drop i))=ax (l.insertIdx i e)++zs.drop ((l.length+1-i)*3):=by
 have e0:e.cells.length=3:=rfl;have e2:(ax (l.take i)).length=i*3:=by rw[al,cE];omega
 have e3:(ax (l.drop i)).length=(l.length-i)*3:=by rw[al,dg]
 have a1:putAt (ax (l.take i)++zs) (i*3) e.cells=(ax (l.take i)++e.cells)++zs.drop 3:=by
  unfold putAt;rw[<-e2,lY,e0,<-fY,mS]
 have a2:(ax (l.take i)++e.cells).length=(i+1)*3:=by rw[aU,e2,e0];omega
 rw[a1,rp e l i (by omega),eH,ir];have e4:zs.drop ((l.length+1-i)*3)=(zs.drop 3).drop ((l.length-i)*3):=by rw[fY];congr 1;omega
 unfold putAt;rw[<-a2,lY,<-fY,mS,e3,e4];simp only[cN]
end
section
attribute [local go_sem ↓] Go.wp_at_zero Go.wp_at_succ E5 yP I8
theorem xp{w:World}{A:Option Addr}{n c:Nat}{l:List E}(S:aQ w 111 3 (.slice A n c) n (ax l))(e:E){g2 cc:Nat}(B2:az w g2 111 e.cells.toArray)(hn:n<=100000)(hg:g2∉ah (.slice A n c))(i:Nat)(hi:i<n)(hc:c<n+1):
  Calls Tryz.prog 74 #[.slice A n c,.int .i64 (i:Nat),.slice (some ⟨g2,0,none⟩) 1 cc] w λr w'=> ∃A' c',r=.returned (.slice A' (n+1) c')/\aQ w' 111 3 (.slice A' (n+1) c') (n+1) (ax (l.insertIdx i e))/\ag (ah (.slice A n c)) w w'/\∀x∈ah (.slice A' (n+1) c'),x∈ah (.slice A n c)\/w.heap.size<=x:=by
 obtain⟨g,cap,rest,hv,BG,hcn,I3⟩:=S.form (by omega) (by omega);simp only[Value.slice.injEq,true_and]at hv;obtain⟨rfl,rfl⟩:=hv;have xD:c<=maxLen:=by obtain⟨_,_,_,_,h⟩:=S.oR;exact h
 have mM:l.length=n:=by have:=S.1;rw[al]at this;omega
 have lk:=xh mM;have FZ:=xh (show rest.length=c*3-n*3 by rw[al,mM]at I3;omega);have BD:=xh BG;have BE:=xh B2;have eG:g2≠g:=λh=>hg (by simp[ah,h]);have HCM:=xh xD;have Dm:=xh (show(l.insertIdx i e).length=n+1 from by rw[rD,mM,if_pos (by omega)]);unfold maxLen at xD;clear S mM I3;have s1:¬(i:Int)=(n:Int):=by omega
 have s2:(i:Int)<=(n:Int):=by omega
 have s3:(i:Int)<=(c:Int):=by omega
 have s4:¬c=i:=by omega
 have s8:IntKind.i64.wrap ((i:Int)+1)=(i:Int)+1:=IntWalk.i64_in _ (by omega);have s9:IntKind.i64.wrap ((n:Int)+1)=(n:Int)+1:=IntWalk.i64_in _ (by omega);have s10:((i:Int)+1).toNat=i+1:=by omega
 have s11:((n:Int)+1).toNat=n+1:=by omega
 have s12:(0:Int)<=(i:Int)+1:=by omega
 have s13:(0:Int)<=(n:Int)+1:=by omega
 have s14:(i:Int)+1<=(n:Int)+1:=by omega
 have s15:(i:Int)<=(n:Int)+1:=by omega
 have E4:=xh (show ∀W,az W g 111 (ax l++rest).toArray->∀j v,(ax (l.drop i))[j]?=some v->W.cell? ((⟨g,i*3,none⟩:Addr).add j)=some v from λW BW j v hv=>by
  rw[gU];refine(BW.cell _).trans ?_;rw[<-js,gF]at hv;rw[cW,bx (aR.1 hv).1,hv])
 obtain⟨w2,G,zs,ea,B3,hz,hG,hG2,bA⟩:=yT (c:=c) BG i (n+1-i) (by rw[lk.o];omega) (by omega) (by omega) (by omega);rw[show i+(n+1-i)=n+1 by omega]at ea hG;have EA:=xh ea;have B3:=xh B3;have HZ:=xh hz;have ER:=xh bA;have BE2:=xh (BE.o.below bA BE.o.lt);have BG2:=xh (BD.o.below bA BD.o.lt);have HGW:=xh (show g<w.heap.size/\g2<w.heap.size from⟨BD.o.lt,BE.o.lt⟩);have s17:(c:Int)<(n:Int)+1:=by omega
 have s20:(n:Int)+1-(i:Int)=((n+1-i:Nat):Int):=by omega
 have s21:IntKind.i64.wrap (((n+1-i:Nat):Int))=((n+1-i:Nat):Int):=IntWalk.i64_in _ (by omega);have s22:¬G=i:=by omega
 have s23:¬G=i+1:=by omega
 have s24:(n:Int)+1<=(G:Int):=by omega
 have s25:(i:Int)<=(G:Int):=by omega
 have s26:(i:Int)+1<=(G:Int):=by omega
 unfold maxLen at hG2;have HG2:=xh hG2;clear B2 BG hg ea hz bA;go_enter Tryz.func74,Tryz.ntmps74;go_wp2_with fail;rw[EA.o]
 obtain⟨w3,eb,B4,oa⟩:=oF (P:=Tryz.prog) B3.o 108 3 111 3 (i*3) (n+1-i) (G-i) ⟨g2,0,none⟩ 1 cc e.cells Tryz.underlying108 ku (by show 3=_;rw[show Nat.min 1 (n+1-i)=1 from by simp only[Nat.min_def];split<;>omega]) (aZ (l:=e.cells) BE2.o 0 _ (by simp)) (by rw[aU,al,cE,lk.o,HZ.o];show i*3+3<=_;omega) (pW e);have EB:=xh eb;have B4:=xh B4;have HBG:=xh (BG2.o.only oa (by simp;have:=HGW.o;omega))
 have OA:=xh oa;have HFT:=xh (show(i+1)*3+(ax (l.drop i)).length<=(putAt (ax (l.take i)++zs) (i*3) e.cells).length from by
  rw[gJ (by rw[aU,al,cE,lk.o,HZ.o];show i*3+3<=_;omega),aU,al,al,cE,dg,lk.o,HZ.o];omega)
 clear eb oa;go_wp2_with fail;rw[EB.o];go_wp2_with fail;refine wp_region_held_drew (S:=λ_=>True) (by kernel_rfl) (trivial) (λaw=>?_);refine dq [(0,46),(1,47),(2,48),(3,49),(4,50),(5,51),(6,52),(7,53)] ?_
 iterate 8 refine za ?_
 refine zd 8 54 λK hK=>?_;go_simp;obtain⟨w4,eb,B5,ob⟩:=oF (P:=Tryz.prog) B4.o.drew 108 3 111 3 ((i+1)*3) (n-i) (G-(i+1)) ⟨g,i*3,none⟩ (n-i) (c-i) (ax (l.drop i)) Tryz.underlying108 ku (by rw[al,dg,lk.o,show Nat.min (n-i) (n-i)=n-i from Nat.min_self _]) (E4.o _ HBG.o.drew) HFT.o (iP _);have EB:=xh eb;have B5:=xh B5;have OB:=xh ob;clear eb ob;rw[EB.o];go_simp;refine zh hK (trivial) (λaw=>?_)
 refine wpAnyH_done (by kernel_rfl) ?_ _;have B6:=B5.o;rw[Ja l e zs i (by rw[lk.o];omega) (by rw[lk.o,HZ.o];omega)]at B6;have B6:=xh B6;have OC:=xh (ER.o.mono (ak _));go_wp2_with fail;go_ret;refine⟨_,_,by first|rfl|simp,⟨by rw[al,Dm.o],.inr ⟨w.heap.size,G,_,rfl,B6.o,by rw[al,Dm.o,dg,HZ.o,lk.o];omega,HG2.o⟩⟩,?_,λx hx=> .inr (by simp[ah]at hx;omega)⟩
 have o4:=((ag.refl [w.heap.size] w3).drew).trans OB.o;exact((ag.aj (S:=[]) ER.o).bw (OA.o.trans o4) (λx hx eT=>by simp at hx;omega)).mono (λx hx _=>by simp at hx)
end
attribute [local go_sem ↓] Go.wp_at_zero Go.wp_at_succ aW yP I8
theorem lS{w:World}{A:Option Addr}{n c:Nat}{l:List E}(S:aQ w 111 3 (.slice A n c) n (ax l))(e:E){g2 cc:Nat}(B2:az w g2 111 e.cells.toArray)(hn:n<=100000)(hg:g2∉ah (.slice A n c))(i:Nat)(hi:i<=n)(hf:w.frozen? ⟨g2,3,none⟩=false):
  Calls Tryz.prog 74 #[.slice A n c,.int .i64 (i:Nat),.slice (some ⟨g2,0,none⟩) 1 cc] w λr w'=> ∃A' c',r=.returned (.slice A' (n+1) c')/\aQ w' 111 3 (.slice A' (n+1) c') (n+1) (ax (l.insertIdx i e))/\ag (ah (.slice A n c)) w w'/\∀x∈ah (.slice A' (n+1) c'),x∈ah (.slice A n c)\/w.heap.size<=x:=by
 have hl:=S.1;rw[al]at hl
 rcases dZ i n with h|h
 .rcases dZ c (n+1)with h1|h1
  .exact xp S e B2 hn hg i h h1
  .exact xm S e B2 hn hg i h hf h1
 .obtain rfl:i=n:=by omega
  have:=yR S e (cc:=cc) B2 hn
  rwa [show l++[e]=l.insertIdx i e from by rw[rp e l i (by omega),bK (by omega),jY (by omega)]]at this
theorem Cm{w:World}{A:Option Addr}{n c:Nat}{l:List E}(S:aQ w 111 3 (.slice A n c) n (ax l))(hn:n<=100000)(h0:0<n):
  Calls Tryz.prog 217 #[.slice A n c] w λr w'=> ∃g c',r=.returned (.slice (some ⟨g,0,none⟩) n c')/\aQ w' 111 3 (.slice (some ⟨g,0,none⟩) n c') n (ax l)/\Below w.heap.size w w'/\w.heap.size<=g:=by
 obtain⟨g,cap,rest,hv,BG,hcn,I3⟩:=S.form h0 (by omega);simp only[Value.slice.injEq,true_and]at hv;obtain⟨rfl,rfl⟩:=hv;obtain⟨i0,hi,jb,gW,iS⟩:=info_parts my;have hl:=S.1;rw[al]at hl;have BN:=az.new w 111 #[];have S0:aQ (w.alloc (.cells #[] 111)) 111 3 (.slice (some ⟨w.heap.size,0,none⟩) 0 0) 0 []:=⟨rfl,.inr ⟨w.heap.size,0,[],rfl,BN,rfl,by unfold maxLen;omega⟩⟩;have BG2:=BG.alloc (.cells #[] 111)
 obtain⟨v',w',ea,S2,o2,f2⟩:=cQ (P:=Tryz.prog) S0 108 108 i0 _ 40 Tryz.underlying108 hi jb gW iS rfl (by omega) ⟨g,0,none⟩ n c (ax l) (by rw[al];exact hl) (aZ BG2 0 _ (λj v hj=>by rw[bu,bx (aR.1 hj).1];exact hj)) (iP l) (by unfold maxLen;omega) (by omega);rw[eA,bu]at S2;obtain⟨gg,cc,_,rfl,_,_⟩:=S2.form h0 (by omega)
 have EA:=xh (show dG Tryz.prog 108 108 (w.alloc (.cells #[] 111)) (.slice (some ⟨w.heap.size,0,none⟩) 0 0) (.slice (some ⟨g,0,none⟩) n c)=_ from ea);have EK:w.heap.size<=gg:=by
  rcases f2 gg (by simp[ah])with h|h
  .simp[ah]at h;omega
  .simp at h;omega
 have hb:Below w.heap.size w w':=((Below.refl w.heap.size w).alloc (ak _) _).trans (o2.aE (by simp) (λx hx=>by simp[ah]at hx;omega));have S2:=xh S2;have hb:=xh hb;have EK:=xh EK;have HE:=Lib.run_eql_slice_nil (P:=Tryz.prog) w 108 111 (some ⟨g,0,none⟩) n c 0 0 Tryz.underlying108;clear BG BG2 BN S0 S ea o2 f2 hi jb gW iS hl I3;go_enter Tryz.func217,Tryz.ntmps217;go_wp2_with fail;rw[EA.o];go_wp2_with fail;go_ret
 exact⟨gg,cc,by first|rfl|simp,S2.o,hb.o,EK.o⟩
end Nd
end Go.Proofs.YtmonobkginiajaaGreat
namespace Go.Proofs.YtmonobkginiajaaGreat.Sh
open Go.RowKit Pk Dk Pg
open Nd (E ax aV aF aK cu)
attribute [local go_sem ↓] Go.wp_at_zero Go.wp_at_succ
variable{K' tb n K:Nat}{w:World}{I:Ix}{F:List Nat}
def qN(e:Int):Int:=if e=3\/e=6 then 14 else e
def QS.bW(q:QS)(p:Int):QS×Bool×List E×Int:=
 if(q.cC p).2.2≠0 then((q.cC p).1,false,[],qN (q.cC p).2.2)
 else((q.cC p).1,(aF (q.cC p).2.1.data.toList).1,(aF (q.cC p).2.1.data.toList).2.1,qN (aF (q.cC p).2.1.data.toList).2.2)
def blank(leaf:Bool)(l:List E):List E:=match leaf,l with
 |false,e::r=>{e with key:=⟨#[]⟩}::r
 |_,l=>l
def bC(leaf:Bool)(l:List E):List UInt8×Int:=aK leaf (blank leaf l)
def QS.cA(q:QS)(p:Int)(leaf:Bool)(l:List E):QS×Int:=if(bC leaf l).2≠0 then(q,(bC leaf l).2)else q.ct p ⟨(bC leaf l).1.toArray⟩
def QS.cO(q:QS)(leaf:Bool)(l:List E):QS×Int×Int:=if(bC leaf l).2≠0 then(q,0,(bC leaf l).2)else q.bh (bC leaf l).1
def tp(b:Nat):Value:= .pointer (some ⟨b,0,none⟩)
def TQ(w:World)(tb:Nat)(I:Ix)(F:List Nat)(q:QS)(n K:Nat):Prop:=az w tb 130 #[pp I.pb]/\PQ w I F q n K
section
variable{w w':World}{tb:Nat}{I:Ix}{F S:List Nat}{q q':QS}{n K:Nat}
theorem TQ.ne(h:TQ w tb I F q n K):tb∉F:=h.2.jC h.1 (by decide) (by decide) (by decide) (by decide) (by decide) (by decide) (by decide) (by decide) (by decide)
theorem TQ.below(h:TQ w tb I F q n K)(hb:Below w.heap.size w w'):TQ w' tb I F q n K:=⟨h.1.below hb h.1.lt,h.2.below hb⟩
theorem TQ.only(h:TQ w tb I F q n K)(o:ag S w w')(hd:∀g∈tb::F,g∉S):TQ w' tb I F q n K:=⟨h.1.only o (hd _ (gG ..)),h.2.only o (λg hg=>hd g (bY _ hg))⟩
theorem TQ.lt(h:TQ w tb I F q n K):∀g∈tb::F,g<w.heap.size:=λg hg=>(aD.1 hg).elim (λe=>by rw[e];exact h.1.lt) (h.2.lt g)
theorem TQ.le(h:TQ w tb I F q n K)(hk:K<=K'):TQ w tb I F q n K':=⟨h.1,h.2.le hk⟩
theorem TQ.next(h:TQ w tb I F q n K)(o:ag F w w')(p:PQ w' I F q' n K'):TQ w' tb I F q' n K':=⟨h.1.only o h.ne,p⟩
end
theorem jf(l:List E):(ax l).length=l.length*3:=Nd.al l
theorem tw(e:Int)(w:World):Calls Tryz.prog 112 #[.int .i64 e] w λr w'=>r=.returned (.int .i64 (qN e))/\w=w':=by
 unfold qN
 by_cases h3:e=3
 .subst h3;go_enter Tryz.func112,Tryz.ntmps112;go_wp2_with fail;go_ret;exact⟨by first|rfl|simp,rfl⟩
 .have q3:(e==3)=false:=by rw[beq_eq_false_iff_ne];exact h3
  by_cases h6:e=6
  .subst h6;go_enter Tryz.func112,Tryz.ntmps112;go_wp2_with fail;go_ret;exact⟨by first|rfl|simp,rfl⟩
  .have q6:(e==6)=false:=by rw[beq_eq_false_iff_ne];exact h6
   rw[if_neg (by omega)];go_enter Tryz.func112,Tryz.ntmps112;go_wp2_with fail;go_ret;exact⟨by first|rfl|simp,rfl⟩
theorem Jb{g:Nat}{b b':Bool}{v v':Value}(B:az w g 118 #[.bool b,v]):
  az ((w.setCell ⟨g,0,none⟩ (.bool b')).setCell ⟨g,1,none⟩ v') g 118 #[.bool b',v']/\ag [g] w ((w.setCell ⟨g,0,none⟩ (.bool b')).setCell ⟨g,1,none⟩ v')/\
   w.cell? ⟨g,0,none⟩=some (.bool b)/\w.cell? ⟨g,1,none⟩=some v/\w.frozen? ⟨g,0,none⟩=false/\w.frozen? ⟨g,1,none⟩=false:=
 ⟨(B.bt 0 _).bt 1 _,((ag.refl _ _).setCell (by simp) _).setCell (by simp) _,B.ab rfl,B.ab rfl,B.frozen 0 (by simp),B.frozen 1 (by simp)⟩
theorem pX{q:QS}(h:TQ w tb I F q n K)(hK:K<=999999999999)(p:Int):
  Calls Tryz.prog 70 #[tp tb,.int .i64 p] w λe w'=> ∃A c,e=.returned (.tuple #[aV (q.bW p).2.1 A (q.bW p).2.2.1.length c,.int .i64 (q.bW p).2.2.2])/\
   aQ w' 111 3 (.slice A (q.bW p).2.2.1.length c) (q.bW p).2.2.1.length (ax (q.bW p).2.2.1)/\(∀g∈ah (.slice A (q.bW p).2.2.1.length c),w.heap.size<=g)/\PQ w' I F (q.bW p).1 n (K+1)/\ag F w w':=by
 have O0:=xh (ae (Below.refl w.heap.size w) (.cells #[.bool false,.slice none 0 0] 118));have B0:=xh (az.new w 118 #[.bool false,.slice none 0 0]);have T0:=h.below O0.o;have p0:=T0.1.ab (i:=0) rfl;have NQ:=xh (show w.heap.size∉F from λhm=>by have:=h.2.lt _ hm;omega);have KG:=xh (oe T0.2 hK p);have KB:=xh tw;have hgs:=λh0=>sG h.2.wp (p:=p) h0;unfold QS.bW;generalize q.cC p=R at *;obtain⟨q1,s,er⟩:=R;dsimp only at *
 clear h T0;unfold pp tp aV at *
 by_cases he:er=0
 .subst he;have hs:=hgs rfl;rw[if_neg (by simp)];have KN:=xh (λ(W:World)=>Nd.I7 s W (by omega));generalize aF s.data.toList=G at *;obtain⟨leaf,l,er⟩:=G;dsimp only at *;unfold aV at *;clear hgs hs;go_enter Tryz.func70,Tryz.ntmps70;go_wp2_with fail;refine KG.o.mono ?_;rintro e w1 ⟨rfl,P1,o1⟩;have P1:=xh P1;have B1:=xh (B0.o.only o1 NQ.o);have o1:=xh o1;clear p0;go_wp2_with fail;refine(KN.o _).mono ?_;rintro e w2 ⟨A,c,rfl,S2,f2,bA⟩
  have S2:=xh S2;have f2:=xh f2;have P2:=xh (P1.o.below bA);have B2:=xh (B1.o.below bA B1.o.lt);have O2:=xh (o1.o.trans (.aj bA));clear bA;go_wp2_with fail;have NE:=xh (show ¬w2.heap.size=w.heap.size from by have:=O2.o.size;simp at this;omega);have C3:=xh (az.new w2 118 #[.bool leaf,.slice A l.length c]);have B3:=xh (B2.o.alloc (.cells #[.bool leaf,.slice A l.length c] 118))
  have S3:=xh (S2.o.alloc (.cells #[.bool leaf,.slice A l.length c] 118));have kh:=ae (Below.refl w2.heap.size w2) (.cells #[.bool leaf,.slice A l.length c] 118);have P3:=xh (P2.o.below kh);have O3:=xh (O2.o.trans (.aj kh));have f3:=xh (show ∀g∈ah (.slice A l.length c),w.heap.size<=g/\g≠w.heap.size from λg hg=>by have h1:=f2.o g hg;have h2:=o1.o.size;simp at h2;omega);clear kh
  generalize w2.alloc (.cells #[.bool leaf,.slice A l.length c] 118)=w3 at *;generalize w2.heap.size=g2 at *;have C3d:=xh C3.o.drew;have KS:=xh (And.intro (C3d.o.ab (i:=0) rfl) (C3d.o.ab (i:=1) rfl));clear C3;have C3:=C3d;have B3:=xh B3.o.drew;have S3:=xh S3.o.drew;have P3:=xh P3.o.drew;have O3:=xh O3.o.drew
  refine wp_region_held_drew (S:=λW=>W.cell? ⟨g2,0,none⟩=some (.bool leaf)/\W.cell? ⟨g2,1,none⟩=some (.slice A l.length c)) (by kernel_rfl) (KS.o) (λaw=>?_);generalize w3.drew=w4 at *;refine dq [(0,28),(1,29)] ?_
  iterate 2 refine za ?_
  refine zd 2 30 λK hK=>?_;go_simp
  go_at_call 112
  refine(KB.o _ _).mono ?_;rintro e w5 ⟨rfl,rfl⟩;go_simp;refine zh hK (KS.o) (λaw=>?_);refine zf 3 λK hK=>?_;go_simp;obtain⟨B4,o4,d0,d1,z0,z1⟩:=Jb (b':=leaf) (v':= .slice A l.length c) B3.o;have B4:=xh B4;have C4:=xh (C3.o.only o4 (by simpa using NE.o));have KS4:=xh (And.intro (C4.o.ab (i:=0) rfl) (C4.o.ab (i:=1) rfl));have o4:=xh o4;go_simp;refine zh hK (KS4.o) (λaw=>?_);refine dq [(4,5)] ?_
  iterate 1 refine za ?_
  refine wpAnyH_done (by kernel_rfl) ?_ _;go_wp2_with fail;exact bodyPost_ret (Nd.dS rfl rfl B4.o) rfl ⟨A,c,rfl,S3.o.only o4.o (λg hg hm=>(f3.o g hg).2 (by simpa using hm)),λg hg=>(f3.o g hg).1,P3.o.aY o4.o NQ.o,jn (((ag.aj (S:=w.heap.size::F) O0.o).trans (jo O3.o)).trans (jq o4.o)) (ak _)⟩
 .rw[if_pos he];have hq:(er != 0)=true:=by rw[bne_iff_ne];exact he
  have lr:(er==0)=false:=by rw[beq_eq_false_iff_ne];exact he
  clear hgs;go_enter Tryz.func70,Tryz.ntmps70;go_wp2_with fail;refine KG.o.mono ?_;rintro e w1 ⟨rfl,P1,o1⟩;have P1:=xh P1;have B1:=xh (B0.o.only o1 NQ.o);have o1:=xh o1;clear p0;go_wp2_with fail;refine(KB.o _ _).mono ?_;rintro e w2 ⟨rfl,rfl⟩;obtain⟨B2,o2,c0,c1,z0,z1⟩:=Jb (b':=false) (v':= .slice none 0 0) B1.o;have B2:=xh B2;have o2:=xh o2;go_wp2_with fail
  exact bodyPost_ret (Nd.dS rfl rfl B2.o) rfl ⟨none,0,rfl,aQ.nil _ _ _,by simp[ah],P1.o.aY o2.o NQ.o,jn (((ag.aj (S:=w.heap.size::F) O0.o).trans (jo o1.o)).trans (jq o2.o)) (ak _)⟩
theorem tx(leaf:Bool)(A:Option Addr)(n c:Nat)(l:List E)(S:aQ w 111 3 (.slice A n c) n (ax l))(hn:n<=1000):
  Calls Tryz.prog 175 #[aV leaf A n c] w λe w'=>e=.returned (.tuple #[.string ⟨(bC leaf l).1.toArray⟩,.int .i64 (bC leaf l).2])/\Below w.heap.size w w':=by
 have O0:=xh (ae (Below.refl w.heap.size w) (.cells #[.bool leaf,.slice A n c] 118));have B0:=xh (az.new w 118 #[.bool leaf,.slice A n c]);have S0:=xh (S.below O0.o);have x0:=B0.o.ab (i:=0) rfl;have x1:=B0.o.ab (i:=1) rfl;have hl:=S.1;rw[jf]at hl
 by_cases hc:leaf=false/\0<n
 .obtain⟨rfl,h0⟩:=hc;obtain⟨e,r,rfl⟩:∃e r,l=e::r:=by
   cases l with
   |nil=>simp at hl;omega
   |cons e r=>exact⟨e,r,rfl⟩
  have KC:=xh (λ(W:World) (hb:Below (w.alloc (.cells #[.bool false,.slice A n c] 118)).heap.size (w.alloc (.cells #[.bool false,.slice A n c] 118)) W)=>Nd.Cm (S0.o.below hb) (by omega) h0);have KP:=xh (λ(W:World) (g c1:Nat) (h:aQ W 111 3 (.slice (some ⟨g,0,none⟩) n c1) n (ax (blank false (e::r))))=>Nd.tt (w:=W) false (some ⟨g,0,none⟩) n c1 (blank false (e::r)) (Nd.aQ.ax h).2 hn);unfold bC;generalize aK false (blank false (e::r))=R at *
  have h0I:(0:Int)<(n:Int):=by omega
  have HN:=xh h0;clear S hl;unfold aV at *;go_enter Tryz.func175,Tryz.ntmps175;go_wp2_with fail;refine(KC.o _ (Below.refl _ _)).mono ?_;rintro e2 w1 ⟨g,c1,rfl,S1,aI,hg⟩;have B1:=xh (B0.o.below aI B0.o.lt);have O1:=xh (ao O0.o aI);have eG:g≠w.heap.size:=by simp at hg;omega
  obtain⟨rest,BG,hr1,_,hr2⟩:=S1.oR;have y0:=B1.o.ab (i:=0) rfl;have y1:=B1.o.ab (i:=1) rfl;have y2:=B1.o.frozen 1 (by simp);have B2:=xh (B1.o.bt 1 (.slice (some ⟨g,0,none⟩) n c1));have BG2:=BG.aY (p:=⟨w.heap.size,1,none⟩) (by simpa using eG) (.slice (some ⟨g,0,none⟩) n c1);have z0:=BG2.ab (i:=0) (v:= .string e.key) rfl;have z1:=BG2.frozen 0 (by simp[Nd.ax,E.cells]);have BG3:=BG2.bt 0 (.string ⟨#[]⟩)
  have S3:=xh (show aQ ((w1.setCell ⟨w.heap.size,1,none⟩ (.slice (some ⟨g,0,none⟩) n c1)).setCell ⟨g,0,none⟩ (.string ⟨#[]⟩)) 111 3 (.slice (some ⟨g,0,none⟩) n c1) n (ax (blank false (e::r)))from
   ⟨by have:=S1.1;rw[jf]at this ⊢;simpa [blank]using this,.inr ⟨g,c1,rest,rfl,by simpa [blank,Nd.ax,E.cells]using BG3,by rw[jf]at hr1 ⊢;simpa [blank]using hr1,hr2⟩⟩)
  have B3:=xh (B2.o.aY (p:=⟨g,0,none⟩) (by simpa using λh=>eG h.symm) (.string ⟨#[]⟩));have u1:=B2.o.ab (i:=1) rfl;have v0:=B3.o.ab (i:=0) rfl;have v1:=B3.o.ab (i:=1) rfl;have O3:=xh (show Below w.heap.size w ((w1.setCell ⟨w.heap.size,1,none⟩ (.slice (some ⟨g,0,none⟩) n c1)).setCell ⟨g,0,none⟩ (.string ⟨#[]⟩))from
   ((ag.aj (S:=[w.heap.size,g]) O1.o).bw (((ag.refl [w.heap.size,g] w1).setCell (by simp) _).setCell (by simp) _) (λx hx _=>hx)).aE (ak _) (λx hx=>by simp at hx hg;omega))
  clear BG BG2 BG3 S1 aI hr1 hr2 hg;go_wp2_with fail;refine(KP.o _ g c1 S3.o).mono ?_;rintro e3 w4 ⟨rfl,eV⟩;have O4:=xh (ao O3.o eV);clear eV;go_wp2_with fail;go_ret2;exact⟨by first|rfl|simp,O4.o⟩
 .have Bs:blank leaf l=l:=by
   unfold blank
   split
   .exfalso;refine hc ⟨rfl,?_⟩;simp at hl;omega
   .rfl
  have KP:=xh (Nd.tt leaf A n c l (Nd.aQ.ax S0.o).2 hn);unfold bC;rw[Bs];generalize aK leaf l=R at *;clear S hl Bs;unfold aV at *
  cases leaf
  .obtain rfl:n=0:=by
    by_cases h:0<n
    .exact absurd ⟨rfl,h⟩ hc
    .omega
   clear hc;go_enter Tryz.func175,Tryz.ntmps175;go_wp2_with fail;refine KP.o.mono ?_;rintro e3 w4 ⟨rfl,eV⟩;have O4:=xh (ao O0.o eV);clear eV;go_wp2_with fail;go_ret2;exact⟨by first|rfl|simp,O4.o⟩
  .clear hc;go_enter Tryz.func175,Tryz.ntmps175;go_wp2_with fail;refine KP.o.mono ?_;rintro e3 w4 ⟨rfl,eV⟩;have O4:=xh (ao O0.o eV);clear eV;go_wp2_with fail;go_ret2;exact⟨by first|rfl|simp,O4.o⟩
theorem yU(leaf:Bool)(l:List E):(bC leaf l).1.length<=232:=Nd.qA leaf _
theorem tA{q:QS}(h:TQ w tb I F q n K)(hK:K<=999999999999)(p:Int)(leaf:Bool)(A:Option Addr)(m c:Nat)(l:List E)(S:aQ w 111 3 (.slice A m c) m (ax l))(hm:m<=1000):
  Calls Tryz.prog 127 #[tp tb,.int .i64 p,aV leaf A m c] w λe w'=>e=.returned (.int .i64 (q.cA p leaf l).2)/\PQ w' I F (q.cA p leaf l).1 n (K+1)/\ag F w w':=by
 have O0:=xh (ae (Below.refl w.heap.size w) (.cells #[.bool leaf,.slice A m c] 118));have B0:=xh (az.new w 118 #[.bool leaf,.slice A m c]);have x0:=B0.o.ab (i:=0) rfl;have x1:=B0.o.ab (i:=1) rfl;have T0:=xh (h.below O0.o);have KL:=xh (tx leaf A m c l (S.below O0.o) hm);have hlen:=yU leaf l;have KP:=xh (λ(W:World) (hW:TQ W tb I F q n K) (s:ByteArray) (hs:s.size<=232)=>Iu hW.2 hK p s hs);unfold QS.cA
 generalize bC leaf l=R at *;obtain⟨R1,R2⟩:=R;dsimp only at *;obtain⟨s,hs⟩:∃s:ByteArray,s=⟨R1.toArray⟩:=⟨_,rfl⟩;have mL:s.size<=232:=by rw[hs];show R1.toArray.size<=232;simpa using hlen
 have xZ:R1=s.data.toList:=by rw[hs]
 rw[xZ]at KL ⊢;rw[show(⟨s.data.toList.toArray⟩:ByteArray)=s from rfl]at KL;clear hs xZ hlen S h;unfold aV tp at *;unfold pp at KP
 by_cases he:R2=0
 .subst he;rw[if_neg (by simp)];go_enter Tryz.func127,Tryz.ntmps127;go_wp2_with fail;refine KL.o.mono ?_;rintro e w1 ⟨rfl,aI⟩;have T1:=xh (T0.o.below aI);have O1:=xh (ao O0.o aI);have p0:=T1.o.1.ab (i:=0) rfl;unfold pp at p0;clear aI x0 x1;go_wp2_with fail;refine(KP.o _ T1.o s mL).mono ?_;rintro e w2 ⟨rfl,P2,o2⟩;have P2:=xh P2;have o2:=xh o2;clear p0;go_wp2_with fail;go_ret;exact⟨by first|rfl|simp,P2.o,(ag.aj O1.o).trans o2.o⟩
 .rw[if_pos he];have hq:(R2 != 0)=true:=by rw[bne_iff_ne];exact he
  have lr:(R2==0)=false:=by rw[beq_eq_false_iff_ne];exact he
  go_enter Tryz.func127,Tryz.ntmps127;go_wp2_with fail;refine KL.o.mono ?_;rintro e w1 ⟨rfl,aI⟩;have T1:=xh (T0.o.below aI);have O1:=xh (ao O0.o aI);clear aI x0 x1;go_wp2_with fail;go_ret;exact⟨by first|rfl|simp,T1.o.2.le (by omega),.aj O1.o⟩
theorem pY{q:QS}(h:TQ w tb I F q n K)(hK:K<=999999999999)(leaf:Bool)(A:Option Addr)(m c:Nat)(l:List E)(S:aQ w 111 3 (.slice A m c) m (ax l))(hm:m<=1000):
  Calls Tryz.prog 131 #[tp tb,aV leaf A m c] w λe w'=>e=.returned (.tuple #[.int .i64 (q.cO leaf l).2.1,.int .i64 (q.cO leaf l).2.2])/\PT w w' I F (q.cO leaf l).1 n (K+1):=by
 have O0:=xh (ae (Below.refl w.heap.size w) (.cells #[.bool leaf,.slice A m c] 118));have B0:=xh (az.new w 118 #[.bool leaf,.slice A m c]);have x0:=B0.o.ab (i:=0) rfl;have x1:=B0.o.ab (i:=1) rfl;have T0:=xh (h.below O0.o);have KL:=xh (tx leaf A m c l (S.below O0.o) hm);have hlen:=yU leaf l;have KP:=xh (λ(W:World) (hW:TQ W tb I F q n K) (s:ByteArray) (hs:s.size<=232)=>sD hW.2 (by omega) s hs);unfold QS.cO
 generalize bC leaf l=R at *;obtain⟨R1,R2⟩:=R;dsimp only at *;obtain⟨s,hs⟩:∃s:ByteArray,s=⟨R1.toArray⟩:=⟨_,rfl⟩;have mL:s.size<=232:=by rw[hs];show R1.toArray.size<=232;simpa using hlen
 have xZ:R1=s.data.toList:=by rw[hs]
 rw[xZ]at KL ⊢;rw[show(⟨s.data.toList.toArray⟩:ByteArray)=s from rfl]at KL;clear hs xZ hlen S h;unfold aV tp at *;unfold pp at KP
 by_cases he:R2=0
 .subst he;rw[if_neg (by simp)];go_enter Tryz.func131,Tryz.ntmps131;go_wp2_with fail;refine KL.o.mono ?_;rintro e w1 ⟨rfl,aI⟩;have T1:=xh (T0.o.below aI);have O1:=xh (ao O0.o aI);have p0:=T1.o.1.ab (i:=0) rfl;unfold pp at p0;clear aI x0 x1;go_wp2_with fail;refine(KP.o _ T1.o s mL).mono ?_;rintro e w2 ⟨rfl,P2⟩;have P2:=xh P2;clear p0;go_wp2_with fail;go_ret2;obtain⟨F2,a,b,c⟩:=P2.o
  exact⟨by first|rfl|simp,F2,a,(ag.aj O1.o).trans b,λg hg=>(c g hg).imp id (λh=>au O1.o.size h)⟩
 .rw[if_pos he];have hq:(R2 != 0)=true:=by rw[bne_iff_ne];exact he
  have lr:(R2==0)=false:=by rw[beq_eq_false_iff_ne];exact he
  go_enter Tryz.func131,Tryz.ntmps131;go_wp2_with fail;refine KL.o.mono ?_;rintro e w1 ⟨rfl,aI⟩;have T1:=xh (T0.o.below aI);have O1:=xh (ao O0.o aI);clear aI x0 x1;go_wp2_with fail;go_ret2;exact⟨by first|rfl|simp,.self (T1.o.2.le (by omega)) (.aj O1.o)⟩
theorem E6(leaf:Bool)(A:Option Addr)(m c:Nat)(l:List E)(S:aQ w 111 3 (.slice A m c) m (ax l))(hm:m<=1000)(b:Bool)(hb:b=decide ((bC leaf l).2=0)):
  Calls Tryz.prog 128 #[aV leaf A m c] w λe w'=>e=.returned (.bool b)/\Below w.heap.size w w':=by
 have O0:=xh (ae (Below.refl w.heap.size w) (.cells #[.bool leaf,.slice A m c] 118));have B0:=xh (az.new w 118 #[.bool leaf,.slice A m c]);have x0:=B0.o.ab (i:=0) rfl;have x1:=B0.o.ab (i:=1) rfl;have KL:=xh (tx leaf A m c l (S.below O0.o) hm);generalize bC leaf l=R at *;obtain⟨R1,R2⟩:=R;dsimp only at *;clear S;unfold aV at *
 by_cases he:R2=0
 .subst he;obtain rfl:b=true:=by rw[hb];rfl
  clear hb;go_enter Tryz.func128,Tryz.ntmps128;go_wp2_with fail;refine KL.o.mono ?_;rintro e w1 ⟨rfl,aI⟩;have O1:=xh (ao O0.o aI);clear aI;go_wp2_with fail;go_ret;exact⟨by first|rfl|simp,O1.o⟩
 .obtain rfl:b=false:=by rw[hb];simpa using he
  have lr:(R2==0)=false:=by rw[beq_eq_false_iff_ne];exact he
  clear hb;go_enter Tryz.func128,Tryz.ntmps128;go_wp2_with fail;refine KL.o.mono ?_;rintro e w1 ⟨rfl,aI⟩;have O1:=xh (ao O0.o aI);clear aI;go_wp2_with fail;go_ret;exact⟨by first|rfl|simp,O1.o⟩
end Go.Proofs.YtmonobkginiajaaGreat.Sh
namespace Go.Proofs.YtmonobkginiajaaGreat.Sh
open Go.RowKit Pk Dk Pg
open Nd (E ax aV aF aK cu bm aM bG)
attribute [local go_sem ↓] Go.wp_at_zero Go.wp_at_succ aW
variable{w:World}
structure Step where
 an:Int
 leaf:Bool
 l:List E
 at_:Nat
structure SM where
 s:Step
 A:Option Addr
 c:Nat
def SM.v(x:SM):Value:= .slice x.A x.s.l.length x.c
def SM.cells(x:SM):List Value:=[.int .i64 x.s.an,.bool x.s.leaf,x.v,.int .i64 (x.s.at_:Nat)]
structure aH(w:World)(b:Nat)(v:Value)(L:List SM):Prop where
 s:aQ w 120 4 v L.length (L.flatMap SM.cells)
 f:∀g∈ah v,b<=g
 e:∀x∈L,aQ w 111 3 x.v x.s.l.length (ax x.s.l)/\∀g∈ah x.v,b<=g
 d:L.Pairwise λx y=> ∀g∈ah x.v,g∉ah y.v
section
variable{w w':World}{b:Nat}{v:Value}{L:List SM}{S:List Nat}
theorem aH.only(h:aH w b v L)(o:ag S w w')(hs:∀g∈S,g<b):aH w' b v L:=
 ⟨h.s.only o (λg hg hm=>by have:=h.f g hg;have:=hs g hm;omega),h.f,λx hx=>⟨(h.e x hx).1.only o (λg hg hm=>by have:=(h.e x hx).2 g hg;have:=hs g hm;omega),(h.e x hx).2⟩,h.d⟩
theorem aH.below(h:aH w b v L)(hb:Below w.heap.size w w'):aH w' b v L:=h.only (S:=[]) (.aj hb) (by simp)
theorem aH.nil(w:World)(b:Nat):aH w b (.slice none 0 0) []:=⟨aQ.nil _ _ _,by simp[ah],by simp,List.Pairwise.nil⟩
end
def lenV2:Value->Nat
 |.slice _ n _=>n
 |_=>0
def kv(key:ByteArray):Nat->QS->Int->List Step->QS×List Step×Int
 |0,q,_,_=>(q,[],14)
 |m+1,q,p,out=>
  if(q.bW p).2.2.2≠0 then((q.bW p).1,[],(q.bW p).2.2.2)
  else if(q.bW p).2.1=true then((q.bW p).1,out++[⟨p,true,(q.bW p).2.2.1,0⟩],0)
  else if(q.bW p).2.2.1=[]then((q.bW p).1,[],14)
  else kv key m (q.bW p).1 ((q.bW p).2.2.1.getD (bm (q.bW p).2.2.1 key) Nd.E.zero).aY (out++[⟨p,false,(q.bW p).2.2.1,bm (q.bW p).2.2.1 key⟩])
def QS.eO(q:QS)(key:ByteArray):QS×List Step×Int:=kv key 16 q 0 []
theorem vx{l:List E}(h:l≠[])(key:ByteArray):bm l key<l.length:=by
 have hl:0<l.length:=rE.2 h;unfold bm;have hle:aM l key<=l.length:=kC
 split
 .rename_i hh;unfold bG at hh
  cases hx:l[aM l key]? with
  |none=>rw[hx]at hh;cases hh
  |some e=>exact(aR.1 hx).1
 .omega
theorem mz(q:QS)(p:Int):(q.bW p).2.2.1.length<=57:=by
 unfold QS.bW
 split
 .exact bq _
 .exact Nd.yN _
theorem mA{e:Int}:qN e=0↔e=0:=by unfold qN;split<;>omega
theorem vy{q:QS}{p:Int}(h:(q.bW p).2.2.2=0):cu (q.bW p).2.2.1 (q.bW p).2.1:=by
 unfold QS.bW at h ⊢
 split at h
 .rename_i h2;exact absurd (mA.1 h) h2
 .rename_i h2;rw[if_neg h2];exact Nd.qB (mA.1 h)
theorem tC(w:World)(o:Obj):(w.alloc o).heap.size=w.heap.size+1:=by simp
theorem di:∀L:List SM,(L.flatMap SM.cells).length=L.length*4
 |[]=>rfl
 |x::L=>by rw[ie,aU,di L];simp[SM.cells];omega
theorem mB:∀{L:List SM} {k:Nat} {x:SM},L[k]?=some x->∀j,j<4->(L.flatMap SM.cells)[k*4+j]?=x.cells[j]?
 |[],_,_,h,_,_=>by simp at h
 |y::L,0,x,h,j,hj=>by
  simp only[vN,Option.some.injEq]at h;subst h;rw[ie,bx (by simp[SM.cells];omega),q7,bu]
 |y::L,k+1,x,h,j,hj=>by
  rw[Af]at h;rw[ie,dF (by simp[SM.cells];omega),show(k+1)*4+j-y.cells.length=k*4+j by simp[SM.cells];omega];exact mB h j hj
theorem E7:(Tryz.prog.info? 120).map (λi=>(i.zero,i.size,i.bytes))=some (some (.agg #[.int .i64 0,.bool false,.slice none 0 0,.int .i64 0]),4,48):=by kernel_rfl
theorem tD{v:Value}{m:Nat}{L:List Value}(S:aQ w 120 4 v m L)(cs:List Value)(hcs:cs.length=4)(h1:∀u∈cs,u.oneCell'=true)(hm:m<=100):
  ∃v' w',dG Tryz.prog 114 114 (w.alloc (.cells cs.toArray 120)) v (.slice (some ⟨w.heap.size,0,none⟩) 1 1)= .ok v' w'/\aQ w' 120 4 v' (m+1) (L++cs)/\ag (ah v) w w'/\(∀g∈ah v',g∈ah v\/w.heap.size<=g):=by
 obtain⟨i0,hi,jb,gW,iS⟩:=info_parts E7;obtain⟨v',w',h1,h2,h3,h4⟩:=cQ (P:=Tryz.prog) (S.alloc (.cells cs.toArray 120)) 114 114 i0 _ 48 Tryz.underlying114 hi jb gW iS rfl (by omega)
  ⟨w.heap.size,0,none⟩ 1 1 cs (by rw[hcs]) (aZ (az.new w 120 cs.toArray) 0 _ (by simp)) h1 (by unfold maxLen;omega) (by omega)
 exact⟨v',w',h1,h2,((ag.refl _ _).alloc _).bw h3 (λx hx _=>hx),λg hg=>(h4 g hg).imp id (λh=>by simp at h;omega)⟩
theorem aH.push{w':World}{b:Nat}{v v':Value}{L:List SM}(h:aH w b v L)(x:SM)(S':aQ w' 120 4 v' (L.length+1) (L.flatMap SM.cells++x.cells))(o:ag (ah v) w w')(f:∀g∈ah v',g∈ah v\/w.heap.size<=g)(hb:b<=w.heap.size)
 (hx:aQ w 111 3 x.v x.s.l.length (ax x.s.l))(hf:∀g∈ah x.v,b<=g)(hn:∀y∈L,∀g∈ah y.v,g∉ah x.v):aH w' b v' (L++[x]):=by
 have xQ:∀y:SM,aQ w 111 3 y.v y.s.l.length (ax y.s.l)->aQ w' 111 3 y.v y.s.l.length (ax y.s.l):=λy hy=>hy.only o (fG hy h.s (by decide));refine⟨by rw[aU,oU];simpa using S',λg hg=>(f g hg).elim (h.f g) (λh=>by omega),λy hy=>?_,?_⟩
 .rcases aS.1 hy with hy|hy
  .exact⟨xQ y (h.e y hy).1,(h.e y hy).2⟩
  .rw[cg.1 hy];exact⟨xQ x hx,hf⟩
 .rw[da];exact⟨h.d,vW _ _,λy hy z hz=>by rw[cg.1 hz];exact hn y hy⟩
theorem yV{tb:Nat}{I:Ix}{F:List Nat}{q:QS}{n K:Nat}(h:TQ w tb I F q n K)(hK:K<=999999999900)(key:ByteArray):
  Calls Tryz.prog 63 #[tp tb,.string key] w λe w'=> ∃v L,e=.returned (.tuple #[v,.int .i64 (q.eO key).2.2])/\aH w' w.heap.size v L/\L.map SM.s=(q.eO key).2.1/\PQ w' I F (q.eO key).1 n (K+16)/\ag F w w':=by
 have KR:=xh (λ(W:World) (qj:QS) (kj:Nat) (hW:TQ W tb I F qj n kj) (hk:kj<=999999999999) (p:Int)=>pX hW hk p);have HT:=xh h;have wI:=xh h.lt;have HNE:=xh h.ne;obtain⟨R,hR⟩:∃R,q.eO key=R:=⟨_,rfl⟩;rw[hR];unfold QS.eO at hR;have HR:=xh hR;clear h hR;unfold tp aV at *;go_enter Tryz.func63,Tryz.ntmps63;go_wp2_with fail
 go_step3
 go_wp2_with fail
 go_step3
 go_wp2_with fail
 go_loopw [6,7] (λov pv wr=> ∃(i:Nat) (L:List SM) (p:Int) (qi:QS),i<=16/\L.length=i/\pv=.int .i64 p/\aQ wr 120 4 ov i (L.flatMap SM.cells)/\(∀x∈L,x.s.leaf=false)/\Hid (kv key (16-i) qi p (L.map SM.s)=R)/\Hid (aH wr w.heap.size ov L/\TQ wr tb I F qi n (K+i)/\ag F w wr)) (λov _ _=>16-lenV2 ov)
 case atStart=>exact⟨0,[],0,q,by omega,rfl,rfl,aQ.nil _ _ _,by simp,HR,xh ⟨.nil _ _,HT.o,ag.refl _ _⟩⟩
 case round=>
  obtain⟨i,L,p,qi,hi,hl,rfl,S1,xq,HW,HA⟩:=hrel;obtain⟨VA,vc,rfl⟩:=aq S1
  by_cases h16:i<16
  .have h16I:(i:Int)<16:=by omega
   have K1:=xh (KR.o wr qi (K+i) HA.o.2.1 (by omega) p);have uq:=vy (q:=qi) (p:=p);have hlen:=mz qi p;have HW:=HW.o;rw[show 16-i=(16-(i+1))+1 by omega]at HW;unfold kv at HW;generalize qi.bW p=r at *;obtain⟨q1,leaf,l,er⟩:=r;dsimp only at *;have HW:=xh HW;have Cd:=xh xq;have HL:=xh hl;clear hl xq S1;go_wp2_with fail;refine K1.o.mono ?_;rintro e w2 ⟨A,c,rfl,S2,f2,P2,o2⟩
   have H2:=xh (show aH w2 w.heap.size (.slice VA i vc) L/\TQ w2 tb I F q1 n (K+(i+1))/\ag F w w2/\aQ w2 111 3 (.slice A l.length c) l.length (ax l)/\(∀g∈ah (.slice A l.length c),wr.heap.size<=g)/\wr.heap.size<=w2.heap.size from
    ⟨HA.o.1.only o2 (λg hg=>wI.o g (bY _ hg)),HA.o.2.1.next o2 P2,HA.o.2.2.trans o2,S2,f2,o2.size⟩)
   have HX:=xh (show ∀y∈L,∀g∈ah y.v,g∉ah (.slice A l.length c)from λy hy g hg hm=>by have h1:=f2 g hm;have h2:=((HA.o.1.e y hy).1).lt g hg;omega);clear S2 f2 P2 o2;have b3:=az.new w2 118 #[.bool leaf,.slice A l.length c];have dN:=ae (Below.refl w2.heap.size w2) (.cells #[.bool leaf,.slice A l.length c] 118)
   by_cases he:er=0
   .subst he;have HM:=xh (uq rfl);clear uq;have b4:=az.new (w2.alloc (.cells #[.bool leaf,.slice A l.length c] 118)) 120 #[.int .i64 p,.bool leaf,.slice A l.length c,.int .i64 0];have b34:=b3.alloc (.cells #[.int .i64 p,.bool leaf,.slice A l.length c,.int .i64 0] 120);rw[tC]at b4;have eV:=ae dN (.cells #[.int .i64 p,.bool leaf,.slice A l.length c,.int .i64 0] 120);have m0:=b3.ab (i:=0) rfl;have m1:=b3.ab (i:=1) rfl;have n0:=b34.ab (i:=0) rfl
    have n1:=b34.ab (i:=1) rfl;have k0:=b4.ab (i:=0) rfl;have k1:=b4.ab (i:=1) rfl;have k2:=b4.ab (i:=2) rfl;have k3:=b4.ab (i:=3) rfl;have H4:=xh (And.intro b34 (And.intro b4 eV))
    cases leaf
    .have HW:=HW.o;rw[if_neg (by simp),if_neg (by simp)]at HW
     by_cases h0:l=[]
     .rw[if_pos h0]at HW;subst HW;have h0l:l.length=0:=by rw[h0];rfl
      have H5:=xh (show PQ _ I F q1 n (K+(i+1))/\ag F w _ from⟨H2.o.2.1.2.below eV,H2.o.2.2.1.trans (.aj eV)⟩);rw[h0l]at H5;clear b3 b4 b34 dN eV h0;go_wp2_with fail;rw[Exit.noGoto_ret];go_ret2;exact⟨.slice none 0 0,[],by first|rfl|simp,.nil _ _,rfl,H5.o.1.le (by omega),H5.o.2⟩
     .rw[if_neg h0]at HW;have HW:=xh HW;have Bs:=vx h0 key;have KB:=xh (Nd.Cl false A l.length c l key (Nd.aQ.ax (H2.o.2.2.2.1.below eV)).2 (by omega) HM.o);unfold aV at KB;obtain⟨ex,hex⟩:∃ex,l[bm l key]?=some ex:=⟨_,aN Bs⟩;have hfar:(l.getD (bm l key) Nd.E.zero).aY=ex.aY:=by rw[ig,hex];rfl
      have HFAR:=xh hfar;have HBL:=xh Bs;generalize bm l key=at_ at *;have hl0:¬l.length=0:=by omega
      have hl1:((l.length:Nat):Int)≠0:=by omega
      go_wp2_with fail;refine KB.o.mono ?_;rintro e w5 ⟨rfl,lC⟩;have N5:=xh (H4.o.1.below lC H4.o.1.lt);have B5:=xh (H4.o.2.1.below lC H4.o.2.1.lt);have O5:=xh (ao H4.o.2.2 lC);have v3:=B5.o.ab (i:=3) rfl;have z3:=B5.o.frozen 3 (by simp);have B6:=xh (B5.o.bt 3 (.int .i64 (at_:Nat)));have N6:=xh (N5.o.aY (p:=⟨w2.heap.size+1,3,none⟩) (by show w2.heap.size≠w2.heap.size+1;omega) (.int .i64 (at_:Nat)))
      have O6:=xh (show Below w2.heap.size w2 (w5.setCell ⟨w2.heap.size+1,3,none⟩ (.int .i64 (at_:Nat)))from((ag.aj (S:=[w2.heap.size+1]) O5.o).trans ((ag.refl _ _).setCell (by simp) _)).aE (ak _) (λx hx=>by simp at hx;omega));have SA:=H2.o.1.below O6.o;have hvlt:∀g∈ah (.slice VA i vc),g<w2.heap.size:=H2.o.1.s.lt
      obtain⟨v',w7,ea,S7,oa,fa⟩:=tD SA.s [.int .i64 p,.bool false,.slice A l.length c,.int .i64 (at_:Nat)] rfl (by simp;exact⟨rfl,rfl,rfl,rfl⟩) (by rw[HL.o];omega);rw[HL.o]at S7;have H7:=xh (show aH w7 w.heap.size v' (L++[⟨⟨p,false,l,at_⟩,A,c⟩])/\TQ w7 tb I F q1 n (K+(i+1))/\ag F w w7 from
       ⟨SA.push ⟨⟨p,false,l,at_⟩,A,c⟩ (by rw[HL.o];exact S7) oa (λg hg=>(fa g hg).imp id (λh=>h)) (by have:=H2.o.2.2.1.size;have:=O6.o.size;omega) (H2.o.2.2.2.1.below O6.o) (λg hg=>au HA.o.2.2.size (H2.o.2.2.2.2.1 g hg)) HX.o,
        (H2.o.2.1.below O6.o).only oa (λg hF hg=>by have:=SA.f g hg;have:=wI.o g hF;omega),
        (H2.o.2.2.1.trans (.aj O6.o)).bw oa (λg hg eT=>by have:=SA.f g hg;omega)⟩)
      have u1:=B6.o.ab (i:=0) rfl;have u2:=B6.o.ab (i:=1) rfl;have u3:=B6.o.ab (i:=2) rfl;have u4':=B6.o.ab (i:=3) rfl;have y1:=(N6.o.only oa (λhg=>by have:=hvlt _ hg;omega)).ab (i:=1) rfl;have y3:=(B6.o.only oa (λhg=>by have:=hvlt _ hg;omega)).ab (i:=3) rfl;obtain⟨ga,ca,resta,hva,BA,_,_⟩:=(H2.o.2.2.2.1.below O6.o).form (by omega) (by omega);have SE:=(Nd.aQ.ax (H7.o.1.e ⟨⟨p,false,l,at_⟩,A,c⟩ (by simp)).1).2
      obtain⟨ad,Jc,nn⟩:=SE.2 at_ ex hex;injection hva with e1 e2 e3
      subst e1 e3;injection Jc with Jc
      subst Jc;rw[Nd.gU,bu]at nn;have xf:=nn.c2;dsimp only at xf;rw[show(w5.setCell ⟨w2.heap.size+1,3,none⟩ (.int .i64 (at_:Nat))).heap.size=w5.heap.size from by simp]at ea;have EA:=xh ea;obtain⟨g7,c7,rest7,rfl,B7,hc7,hr7⟩:=S7.form (by omega) (by omega);have S7:=xh (show aQ w7 120 4 (.slice (some ⟨g7,0,none⟩) (i+1) c7) (i+1) ((L++[(⟨⟨p,false,l,at_⟩,some ⟨ga,0,none⟩,c⟩:SM)]).flatMap SM.cells)from by rw[oU];simpa [SM.cells,SM.v]using S7)
      have hatI:(at_:Int)<(l.length:Int):=by have:=HBL.o;omega
      clear ea oa fa SA BA SE nn B7 hr7 b3 b4 b34 dN eV lC hex;go_wp2_with fail;rw[EA.o];go_wp2_with fail;have HW:=HW.o;rw[HFAR.o]at HW;go_roundw
      case rel=>exact⟨i+1,L++[⟨⟨p,false,l,at_⟩,some ⟨ga,0,none⟩,c⟩],ex.aY,q1,by omega,by rw[aU,HL.o];rfl,rfl,S7.o,λx hx=>(aS.1 hx).elim (Cd.o x) (λh=>by rw[cg.1 h]),xh (by rw[eh];exact HW),H7⟩
      case measure=>simp[lenV2];omega
    .have HW:=HW.o;rw[if_neg (by simp),if_pos rfl]at HW;subst HW;have SA:=H2.o.1.below eV;obtain⟨v',w5,ea,S5,oa,fa⟩:=tD SA.s [.int .i64 p,.bool true,.slice A l.length c,.int .i64 0] rfl (by simp;exact⟨rfl,rfl,rfl,rfl⟩) (by rw[HL.o];omega);rw[HL.o]at S5;rw[tC,tC]at ea;have H5:=xh (show aH w5 w.heap.size v' (L++[⟨⟨p,true,l,0⟩,A,c⟩])/\PQ w5 I F q1 n (K+(i+1))/\ag F w w5 from
      ⟨SA.push ⟨⟨p,true,l,0⟩,A,c⟩ (by rw[HL.o];exact S5) oa (λg hg=>(fa g hg).imp id (λh=>h)) (by have:=H2.o.2.2.1.size;have:=eV.size;omega) (H2.o.2.2.2.1.below eV) (λg hg=>au HA.o.2.2.size (H2.o.2.2.2.2.1 g hg)) HX.o,
       (H2.o.2.1.2.below eV).only oa (λg hF hg=>by have:=SA.f g hg;have:=wI.o g (bY _ hF);omega),
       (H2.o.2.2.1.trans (.aj eV)).bw oa (λg hg eT=>by have:=SA.f g hg;omega)⟩)
     obtain⟨g5,c5,rest5,rfl,B5,hc5,hr5⟩:=S5.form (by omega) (by omega);have x5:w5.cell? ⟨g5,i*4+1,none⟩=some (.bool true):=B5.ab (by
      rw[cW,cN,dF (by rw[di,HL.o];omega),di,HL.o,show i*4+1-i*4=1 by omega];rfl)
     have EA:=xh ea;have w1':IntKind.i64.wrap (((i+1:Nat):Int)-1)=(i:Int):=by rw[show((i+1:Nat):Int)-1=(i:Int) by omega];exact IntWalk.i64_in _ (by omega)
     have w2':(i:Int)<((i+1:Nat):Int):=by omega
     clear ea S5 oa fa B5 SA b3 b4 b34 dN eV hr5;go_wp2_with fail;rw[EA.o];go_wp2_with fail;rw[Exit.noGoto_ret];go_ret2;exact⟨_,_,by first|rfl|simp,H5.o.1,by rw[eh];rfl,H5.o.2.1.le (by omega),H5.o.2.2⟩
   .have hq:(er != 0)=true:=by rw[bne_iff_ne];exact he
    have lr:(er==0)=false:=by rw[beq_eq_false_iff_ne];exact he
    have HW:=HW.o;rw[if_pos he]at HW;subst HW;have H3:=xh (show PQ (w2.alloc (.cells #[.bool leaf,.slice A l.length c] 118)) I F q1 n (K+(i+1))/\ag F w (w2.alloc (.cells #[.bool leaf,.slice A l.length c] 118))from⟨H2.o.2.1.2.below dN,H2.o.2.2.1.trans (.aj dN)⟩);clear b3 dN uq;go_wp2_with fail;rw[Exit.noGoto_ret];go_ret2;exact⟨.slice none 0 0,[],by first|rfl|simp,.nil _ _,rfl,H3.o.1.le (by omega),H3.o.2⟩
  .obtain rfl:i=16:=by omega
   have HW:=HW.o;rw[show 16-16=0 by omega]at HW;unfold kv at HW;subst HW;obtain⟨g5,c5,rest5,hv,B5,hc5,hr5⟩:=S1.form (by omega) (by omega);injection hv with e1 e2 e3
   subst e1 e3;obtain⟨x,hx⟩:∃x,L[15]?=some x:=⟨_,aN (by omega)⟩;have Hk:=xq x (aA hx);have x5:wr.cell? ⟨g5,61,none⟩=some (.bool false):=B5.ab (by
    rw[cW,bx (by rw[di,hl];omega),show 61=15*4+1 from rfl,mB hx 1 (by omega),<-Hk];rfl)
   clear B5 hr5 S1 xq hl hx Hk;go_wp2_with fail;go_ret2;exact⟨.slice none 0 0,by first|rfl|simp,[],.nil _ _,rfl,HA.o.2.1.2,HA.o.2.2⟩
end Go.Proofs.YtmonobkginiajaaGreat.Sh
