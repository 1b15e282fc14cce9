/- packed. -/
import Derived.Lib.Overlaps
import Derived.Lib.SliceRun
import Derived.Lib.AppendZerosOnto
import Derived.Test.YtmonobkginiajaaGreatB8
set_option linter.all false
set_option maxRecDepth 100000
set_option maxHeartbeats 8000000
namespace Go.Proofs.YtmonobkginiajaaGreat
open Go.Proofs.Tryz
section
open Go.RowKit
noncomputable def yC(P:Program)(T T' ty:TypeId)(w:World)(d s:Value):Result Value:=(Builtin.copy_ #[T,T'] ty #[d,s]).run P w
theorem Is(P:Program)(ρ:Operand->Value)(dst:Option Tmp)(d s:Operand)(T T' t:TypeId)(p:String)(af:Array Edge)(g:Option (Nat×Bool))(w:World):
  (execOp ρ {dst:=dst,op:= .call {callee:= .builtin .copy,args:= #[d,s],argTypes:= #[T,T']},type:=t,pos:=p,after:=af,guard:=g}).run P w=(yC P T T' t w (ρ d) (ρ s)).andThen λv w'=> .ok (.value v) w':=by
 simp[execOp,resolve,invoke,builtin,yC]
noncomputable def uH(P:Program)(T ty:TypeId)(w:World)(s:Value):Result Value:=(Builtin.clear_ #[T] ty #[s]).run P w
theorem Vd(P:Program)(ρ:Operand->Value)(dst:Option Tmp)(s:Operand)(T t:TypeId)(p:String)(af:Array Edge)(g:Option (Nat×Bool))(w:World):
  (execOp ρ {dst:=dst,op:= .call {callee:= .builtin .clear,args:= #[s],argTypes:= #[T]},type:=t,pos:=p,after:=af,guard:=g}).run P w=(uH P T t w (ρ s)).andThen λv w'=> .ok (.value v) w':=by
 simp[execOp,resolve,invoke,builtin,uH]
theorem uI{P:Program}{w:World}{g:Nat}{t:TypeId}{cur:List Value}(B:aJ w g t cur.toArray)(T ty elem:TypeId)(sz o tW yM:Nat)(a:Addr)(JT sCap:Nat)(cs:List Value)
  (hu:P.underlying T=some (.slice elem))(hs:(P.info? elem).map (·.size)=some sz)(hn:cs.length=Nat.min JT tW*sz)
  (RQ:∀j v,cs[j]?=some v->w.cell? (a.add j)=some v)(rH:o+cs.length<=cur.length)(h1:∀v∈cs,v.oneCell'=true):
  ∃w',yC P T T ty w (.slice (some ⟨g,o,none⟩) tW yM) (.slice (some a) JT sCap)= .ok (goInt (Nat.min JT tW)) w'/\aJ w' g t (putAt cur o cs).toArray/\ag [g] w w':=by
 refine⟨w.setCells g o cs,?_,B.setCells cs o rH,(ag.refl _ _).setCells cs o (by simp)⟩;have hl:=run_loadCells_list (P:=P) w a cs RQ;have uV:=run_storeCells_cells (P:=P) g o cs 0 w (by intro j hj;rw[B.cell];simp;omega) (by intro j hj;exact B.frozen _ (by simp;omega)) h1
 cases hq:P.info? elem with
 |none=>simp[hq]at hs
 |some i=>
  have hi:i.size=sz:=by simpa [hq]using hs
  simp[yC,Builtin.copy_,run_underlying hu,Builtin.lenOf,Builtin.firstCells,sizeOf,typeInfo,hq,hi,<-hn,hl,uV]
theorem Dm{P:Program}{w:World}{g:Nat}{t:TypeId}{cur:List Value}(B:aJ w g t cur.toArray)(T ty elem:TypeId)(sz n cap:Nat)(a:Addr)(m c:Nat)(cs:List Value)
  (hu:P.underlying T=some (.slice elem))(hs:(P.info? elem).map (·.size)=some sz)(hn:cs.length=m*sz)
  (RQ:∀j v,cs[j]?=some v->w.cell? (a.add j)=some v)(hr:n+m<=cap)(rH:n*sz+cs.length<=cur.length)(h1:∀v∈cs,v.oneCell'=true):
  ∃w',dP P T ty w (.slice (some ⟨g,0,none⟩) n cap) (.slice (some a) m c)= .ok (.slice (some ⟨g,0,none⟩) (n+m) cap) w'/\aJ w' g t (putAt cur (n*sz) cs).toArray/\ag [g] w w':=by
 cases hq:P.info? elem with
 |none=>simp[hq]at hs
 |some i=>
  have hi:i.size=sz:=by simpa [hq]using hs
  subst hi;have h:=run_append_room_cells (P:=P) w T ty elem i hu hq g 0 n cap a m c cs hn RQ h1 hr (λj hj=>by rw[B.cell];simp;omega) (λj hj=>B.frozen _ (by simp;omega));rw[bg]at h;exact⟨_,h,B.setCells cs _ rH,(ag.refl _ _).setCells cs _ (by simp)⟩
theorem Dn{P:Program}{w:World}{g:Nat}{t:TypeId}{cur:List Value}(B:aJ w g t cur.toArray)(T ty elem:TypeId)(z:Value)(o c:Nat)
  (hu:P.underlying T=some (.slice elem))(hz:∀w,(zeroValue elem).run P w=.ok z w)(rH:o+z.cells.toList.length<=cur.length)(h1:∀v∈z.cells.toList,v.oneCell'=true):
  ∃w',uH P T ty w (.slice (some ⟨g,o,none⟩) 1 c)= .ok (.tuple #[]) w'/\aJ w' g t (putAt cur o z.cells.toList).toArray/\ag [g] w w':=by
 refine⟨w.setCells g o z.cells.toList,?_,B.setCells _ o rH,(ag.refl _ _).setCells _ o (by simp)⟩;have hzc:(Builtin.zeroCells z.cells 1).toList=z.cells.toList:=by
  simp[Builtin.zeroCells];apply vg
  .simp
  .intro i h1 h2;have:i<z.cells.size:=by simpa using h2
   simp[Nat.mod_eq_of_lt this];rw[getElem!_pos z.cells i this]
 have uV:=run_storeCells_cells (P:=P) g o z.cells.toList 0 w (by intro j hj;rw[B.cell];simp at hj rH ⊢;omega) (by intro j hj;exact B.frozen _ (by simp at hj rH ⊢;omega)) h1;simp only[iw]at uV;simp[uH,Builtin.clear_,run_underlying hu,hz,hzc,uV]
namespace Nd
open Sl
section
attribute [local go_sem ↓] Go.wp_at_zero Go.wp_at_succ bz Is Vd
theorem nR:(prog.info? 111).map (·.size)=some 3:=by kernel_rfl
theorem ents_cells(l:List E):∀v∈aH l,v.oneCell'=true:=lC l
theorem ents_drop1(l:List E)(k:Nat)(rest:List Value):(aH l++rest).drop (k*3)=if k<=l.length then aH (l.drop k)++rest else rest.drop ((k-l.length)*3):=by
 split
 .rw[r9 (by rw[aw];omega),me]
 .rename_i h;rw[List.drop_append,lJ (by rw[aw];omega),cW,aw]
  congr 1
  omega
theorem QH(l:List E)(rest:List Value)(i:Nat)(hi:i<l.length)(z:List Value)(hz:z.length=3):
  putAt (putAt (aH l++rest) (i*3) (aH (l.drop (i+1)))) ((l.length-1)*3) z=aH (l.eraseIdx i)++(z++rest):=by
 have e1:putAt (aH l++rest) (i*3) (aH (l.drop (i+1)))=aH (l.eraseIdx i)++(aH (l.drop (l.length-1))++rest):=by
  unfold putAt;rw[lT (by rw[aw];omega),wi,aw,cO,show i*3+(l.length-(i+1))*3=(l.length-1)*3 by omega,
   r9 (by rw[aw];omega),me,<-gl,<-List.eraseIdx_eq_take_drop_succ]
 have e2:(aH (l.eraseIdx i)).length=(l.length-1)*3:=by rw[aw,List.length_eraseIdx];split<;>omega
 have e3:(aH (l.drop (l.length-1))).length=3:=by rw[aw,cO];omega
 rw[e1];unfold putAt;rw[hz,<-e2,qP,cr,<-iK,sj,<-e3,sj]
theorem qs{w:World}{A:Option Addr}{n c:Nat}{l:List E}(S:aT w 111 3 (.slice A n c) n (aH l))(i:Nat)(hi:i<n)(hn:n<=100000):
  Calls prog 72 #[.slice A n c,.int .i64 (i:Nat),.int .i64 ((i:Int)+1)] w λe w'=>e=.returned (.slice A (n-1) c)/\aT w' 111 3 (.slice A (n-1) c) (n-1) (aH (l.eraseIdx i))/\ag (ai (.slice A n c)) w w':=by
 obtain⟨g,cap,rest,hv,BG,hcn,LA⟩:=S.form (by omega) (by omega);simp only[Value.slice.injEq,true_and]at hv;obtain⟨rfl,rfl⟩:=hv;have tC:c<=maxLen:=by obtain⟨_,_,_,_,h⟩:=S.tx;exact h
 have tA:l.length=n:=by have:=S.1;rw[aw]at this;omega
 have nD:=xh tA;have RE:=xh (show rest.length=c*3-n*3 by rw[aw,tA]at LA;omega);have BD:=xh BG;clear S tA LA BG;unfold maxLen at tC;have s1:(i:Int)<=(i:Int)+1:=by omega
 have s2:(i:Int)+1<=(n:Int):=by omega
 have s3:(n:Int)<=(c:Int):=by omega
 have s4:((i:Int)+1).toNat=i+1:=by omega
 have s5:¬(i:Int)=(i:Int)+1:=by omega
 have s6:(0:Int)<=(i:Int)+1:=by omega
 have s7:(i:Int)<=(n:Int):=by omega
 have s8:(i:Int)<=(c:Int):=by omega
 have s9:(i:Int)+1<=(c:Int):=by omega
 have s10:¬c=i:=by omega
 have s12:n-(n-1)=1:=by omega
 go_enter func72,ntmps72;go_wp2_with fail;have oX:=xh (show(n-1)*3+(Value.agg #[.string ⟨#[]⟩,.string ⟨#[]⟩,.int .i64 0]).cells.toList.length<=(putAt (aH l++rest) (i*3) (aH (l.drop (i+1)))).length from by
  rw[ke (by rw[aw,cO,aU,aw,nD.o,RE.o];omega),aU,aw,nD.o,RE.o];show(n-1)*3+3<=_;omega)
 have HDC:=xh (show putAt (putAt (aH l++rest) (i*3) (aH (l.drop (i+1)))) ((n-1)*3) (Value.agg #[.string ⟨#[]⟩,.string ⟨#[]⟩,.int .i64 0]).cells.toList=aH (l.eraseIdx i)++((Value.agg #[.string ⟨#[]⟩,.string ⟨#[]⟩,.int .i64 0]).cells.toList++rest)from by
  have:=QH l rest i (by rw[nD.o];exact hi) (Value.agg #[.string ⟨#[]⟩,.string ⟨#[]⟩,.int .i64 0]).cells.toList rfl;rw[nD.o]at this;exact this)
 have Bw:=xh (show(l.eraseIdx i).length=n-1 from by rw[List.length_eraseIdx,nD.o,if_pos hi]);have HRL:=xh (show(aH (l.eraseIdx i)).length+((Value.agg #[.string ⟨#[]⟩,.string ⟨#[]⟩,.int .i64 0]).cells.toList++rest).length=c*3 from by
  rw[aw,Bw.o,aU,RE.o];show(n-1)*3+(3+(c*3-n*3))=c*3;omega)
 have HCM:=xh tC;have QI:∀(a:Addr),(i+1<n->a=⟨g,(i+1)*3,none⟩)->∀j v,(aH (l.drop (i+1)))[j]?=some v->w.drew.cell? (a.add j)=some v:=λa ha j v hv=>by
  have hl:i+1<n:=by
   have:=(aS.1 hv).1;rw[aw,cO,nD.o]at this;omega
  rw[ha hl,fe];refine(BD.o.drew.cell _).trans ?_;rw[<-me,gI]at hv;rw[dj,bF (aS.1 hv).1,hv]
 by_cases Gl:c=i+1
 .have s11:c-(i+1)=0:=by omega
  have HN:=xh (show n=i+1 by omega)
  replace Gl:=xh Gl
  refine wp_region_held_drew (S:=λ_=>True) (by kernel_rfl) (trivial) (λah=>?_);refine bM [(0,20),(1,21),(2,22),(3,23),(4,24),(5,25)] ?_
  iterate 6 refine aG ?_
  refine bY 6 26 λK hK=>?_;go_simp;obtain⟨w2,ea,B2,oa⟩:=Dm (P:=prog) BD.o.drew 108 108 111 3 i c ⟨g,0,none⟩ (n-(i+1)) 0 (aH (l.drop (i+1))) underlying108 nR (by rw[aw,cO,nD.o]) (QI _ (λh=>by first|rfl|(have:=HN.o;omega))) (by omega) (by rw[aw,cO,nD.o];simp only[aU,aw,nD.o];have:=RE.o;omega) (lC _);rw[show i+(n-(i+1))=n-1 by omega]at ea;have EA:=xh ea
  have B2:=xh B2;have OA:=xh oa;clear ea oa;rw[if_pos Gl.o,EA.o];go_simp;refine aA hK (trivial) (λah=>?_);refine bM [(7,0)] ?_
  iterate 1 refine aG ?_
  refine wpAnyH_done (by kernel_rfl) ?_ _;have B2c:=B2.o;obtain⟨w3,ec,B3,oc⟩:=Dn (P:=prog) B2c 108 0 111 (.agg #[.string ⟨#[]⟩,.string ⟨#[]⟩,.int .i64 0]) ((n-1)*3) (c-(n-1)) underlying108 Tryz.zeroValue111 oX.o (by simp;decide);rw[HDC.o]at B3;have EC:=xh ec;have B3:=xh B3;have OC:=xh (OA.o.trans oc);clear ec oc B2c;go_wp2_with fail;rw[EC.o];go_wp2_with fail;go_ret
  exact aE ⟨⟨by rw[aw,Bw.o],.inr ⟨g,c,_,rfl,B3.o,by rw[HRL.o],HCM.o⟩⟩,by simpa [ai]using (ag.refl [g] w).drew.trans OC.o⟩
 .have s11:¬c=i+1:=Gl;refine wp_region_held_drew (S:=λ_=>True) (by kernel_rfl) (trivial) (λah=>?_);refine bM [(0,20),(1,21),(2,22),(3,23),(4,24),(5,25)] ?_
  iterate 6 refine aG ?_
  refine bY 6 26 λK hK=>?_;go_simp;obtain⟨w2,ea,B2,oa⟩:=Dm (P:=prog) BD.o.drew 108 108 111 3 i c ⟨g,(i+1)*3,none⟩ (n-(i+1)) (c-(i+1)) (aH (l.drop (i+1))) underlying108 nR (by rw[aw,cO,nD.o]) (QI _ (λh=>by first|rfl|(have:=HN.o;omega))) (by omega) (by rw[aw,cO,nD.o];simp only[aU,aw,nD.o];have:=RE.o;omega) (lC _);rw[show i+(n-(i+1))=n-1 by omega]at ea
  have EA:=xh ea;have B2:=xh B2;have OA:=xh oa;clear ea oa;rw[EA.o];go_simp;refine aA hK (trivial) (λah=>?_);refine bM [(7,0)] ?_
  iterate 1 refine aG ?_
  refine wpAnyH_done (by kernel_rfl) ?_ _;have B2c:=B2.o;obtain⟨w3,ec,B3,oc⟩:=Dn (P:=prog) B2c 108 0 111 (.agg #[.string ⟨#[]⟩,.string ⟨#[]⟩,.int .i64 0]) ((n-1)*3) (c-(n-1)) underlying108 Tryz.zeroValue111 oX.o (by simp;decide);rw[HDC.o]at B3;have EC:=xh ec;have B3:=xh B3;have OC:=xh (OA.o.trans oc);clear ec oc B2c;go_wp2_with fail;rw[EC.o];go_wp2_with fail;go_ret
  exact aE ⟨⟨by rw[aw,Bw.o],.inr ⟨g,c,_,rfl,B3.o,by rw[HRL.o],HCM.o⟩⟩,by simpa [ai]using (ag.refl [g] w).drew.trans OC.o⟩
theorem rn:(prog.info? 111).map (λi=>(i.zero,i.size,i.bytes))=some (some (.agg #[.string ⟨#[]⟩,.string ⟨#[]⟩,.int .i64 0]),3,40):=by kernel_rfl
theorem wu(e:E):∀v∈e.cells,v.oneCell'=true:=λv hv=>by
 have:=lC [e] v (by simpa [aH]using hv);exact this
theorem yD{α:Type}(e:α):∀(l:List α) (i:Nat),i<=l.length->l.insertIdx i e=l.take i++e::l.drop i
 |_,0,_=>by simp
 |[],i+1,h=>absurd h (by simp)
 |a::l,i+1,h=>by
  rw[JP,yD e l i (by simpa using h)];rfl
theorem Ve(l:List E)(e:E)(rest:List Value)(i:Nat)(hi:i<=l.length)(hr:3<=rest.length):
  putAt (putAt (aH l++rest) ((i+1)*3) (aH (l.drop i))) (i*3) e.cells=aH (l.insertIdx i e)++rest.drop 3:=by
 have e0:e.cells.length=3:=rfl;have e1:l.insertIdx i e=l.take i++e::l.drop i:=yD e l i hi;have e2:(aH (l.take i)).length=i*3:=by rw[aw,bm];omega
 have e3:(aH (l.drop i)).length=(l.length-i)*3:=by rw[aw,cO]
 have e5:(aH l++rest)=aH (l.take i)++(aH (l.drop i)++rest):=by rw[<-cr,<-gl,kT]
 have hlen:(aH l++rest).length=l.length*3+rest.length:=by rw[aU,aw]
 have a1:(putAt (aH l++rest) ((i+1)*3) (aH (l.drop i))).take (i*3)=aH (l.take i):=by
  unfold putAt;rw[cr,lT (by rw[bm,hlen];omega),List.take_take,oC (by omega),e5,<-e2,qP]
 have a2:(putAt (aH l++rest) ((i+1)*3) (aH (l.drop i))).drop (i*3+3)=aH (l.drop i)++rest.drop 3:=by
  unfold putAt;rw[cr,show i*3+3=((aH l++rest).take ((i+1)*3)).length by rw[bm,hlen];omega,sj]
  congr 1
  rw[e3,List.drop_append,lJ (by rw[aw];omega),cW,aw]
  congr 1
  omega
 rw[e1,gl,kM,cr,cr,<-a1,<-a2,show putAt (putAt (aH l++rest) ((i+1)*3) (aH (l.drop i))) (i*3) e.cells=(putAt (aH l++rest) ((i+1)*3) (aH (l.drop i))).take (i*3)++e.cells++(putAt (aH l++rest) ((i+1)*3) (aH (l.drop i))).drop (i*3+e.cells.length)from rfl,e0,cr]
theorem It{w:World}{A:Option Addr}{n c:Nat}{l:List E}(S:aT w 111 3 (.slice A n c) n (aH l))(e:E){g2 cc:Nat}(B2:aJ w g2 111 e.cells.toArray)(hn:n<=100000):
  Calls prog 74 #[.slice A n c,.int .i64 (n:Nat),.slice (some ⟨g2,0,none⟩) 1 cc] w λr w'=> ∃A' c',r=.returned (.slice A' (n+1) c')/\aT w' 111 3 (.slice A' (n+1) c') (n+1) (aH (l++[e]))/\ag (ai (.slice A n c)) w w'/\∀x∈ai (.slice A' (n+1) c'),x∈ai (.slice A n c)\/w.heap.size<=x:=by
 obtain⟨i0,hi,kx,ju,kg⟩:=info_parts rn;have hl:=S.1;rw[aw]at hl;obtain⟨v',w',ea,S2,o2,f2⟩:=dk (P:=prog) S 108 108 i0 _ 40 underlying108 hi kx ju kg rfl (by omega) ⟨g2,0,none⟩ 1 cc e.cells rfl (bq (l:=e.cells) B2 0 _ (by simp)) (wu e) (by unfold maxLen;omega) (by omega);obtain⟨A',c',rfl⟩:=au S2;have EA:=xh (show dP prog 108 108 w (.slice A n c) (.slice (some ⟨g2,0,none⟩) 1 cc)=_ from ea);have S2:=xh S2
 have o2:=xh o2;have f2:=xh f2;have HC:A=none/\n=0/\c=0\/∃g,A=some ⟨g,0,none⟩/\n<=c/\c<=maxLen:=by
  rcases S.2 with⟨h1,h2⟩|⟨g,cap,rest,h1,h2,h3,h4⟩
  .injection h1 with a1 a2 a3
   exact .inl ⟨a1,a2,a3⟩
  .injection h1 with a1 a2 a3
   subst a3;refine .inr ⟨g,a1,?_,h4⟩;rw[aw]at h3;omega
 have s1:(n:Int)<=(n:Int):=by omega
 clear S B2 ea hi kx ju kg;have HC:A=none/\n=0/\c=0\/(∃g,A=some ⟨g,0,none⟩/\c=n/\c<=maxLen)\/∃g,A=some ⟨g,0,none⟩/\¬c=n/\n<=c/\c<=maxLen:=by
  rcases HC with h|⟨g,h1,h2,h3⟩
  .exact .inl h
  .by_cases hc:c=n
   .exact .inr (.inl ⟨g,h1,hc,h3⟩)
   .exact .inr (.inr ⟨g,h1,hc,h2,h3⟩)
 rcases HC with⟨rfl,rfl,rfl⟩|⟨g,rfl,rfl,hc2⟩|⟨g,rfl,EL,Gl,hc2⟩
 all_goals
  (try have hc1I:(n:Int)<=(c:Int):=by omega)
  go_enter func74,ntmps74;go_wp2_with fail;rw[EA.o];go_wp2_with fail;go_ret;exact⟨A',c',by first|rfl|simp,by rw[gl];simpa [aH]using S2.o,o2.o,f2.o⟩
theorem Dp{w:World}{g:Nat}{t:TypeId}{cs:Array Value}(B:aJ w g t cs):w.shape? g=some (t,cs.size):=by
 obtain⟨lo,hi,h,_⟩:=B;unfold World.shape?;rw[h]
theorem sz_ent(w:World):(Go.sizeOf 111).run prog w=.ok 3 w:=by
 obtain⟨i0,hi,kx,ju,kg⟩:=info_parts rn;simp[sizeOf,typeInfo,hi,ju]
theorem Iu{w:World}{g1 g2:Nat}{t1 t2:TypeId}{c1 c2:Array Value}(B1:aJ w g1 t1 c1)(B2:aJ w g2 t2 c2)(ff:g1≠g2)(h0:c2.size≠0)(hc:c1.size≠0)(hz:w.frozen? ⟨g1,c1.size,none⟩=false)(o2 la ca lb cb:Nat):
  (callFunc 125 #[.slice (some ⟨g1,0,none⟩) la ca,.slice (some ⟨g2,o2,none⟩) lb cb]).run prog w=.ok (.value (.bool false)) w:=by
 rw[run_callFunc_extern func125 (by kernel_rfl) (by kernel_rfl) (by kernel_rfl) (e:=Extern.SlicesOverlaps.overlaps #[108,108] #[4]) (by kernel_rfl),
  Lib.run_overlaps_apart w 108 4 111 underlying108 3 sz_ent ⟨g1,0,none⟩ ⟨g2,o2,none⟩ la ca lb cb ff t1 t2 c1.size c2.size (Dp B1) (Dp B2) h0 (B1.frozen 0 (by omega)) hz]
 rfl
theorem FD{w:World}{A:Option Addr}{n c:Nat}{l:List E}(S:aT w 111 3 (.slice A n c) n (aH l))(e:E){g2 cc:Nat}(B2:aJ w g2 111 e.cells.toArray)(hn:n<=100000)(hg:g2∉ai (.slice A n c))(i:Nat)(hi:i<n)(hf:w.frozen? ⟨g2,3,none⟩=false)(hc:n+1<=c):
  Calls prog 74 #[.slice A n c,.int .i64 (i:Nat),.slice (some ⟨g2,0,none⟩) 1 cc] w λr w'=> ∃A' c',r=.returned (.slice A' (n+1) c')/\aT w' 111 3 (.slice A' (n+1) c') (n+1) (aH (l.insertIdx i e))/\ag (ai (.slice A n c)) w w'/\∀x∈ai (.slice A' (n+1) c'),x∈ai (.slice A n c)\/w.heap.size<=x:=by
 obtain⟨g,cap,rest,hv,BG,hcn,LA⟩:=S.form (by omega) (by omega);simp only[Value.slice.injEq,true_and]at hv;obtain⟨rfl,rfl⟩:=hv;have tC:c<=maxLen:=by obtain⟨_,_,_,_,h⟩:=S.tx;exact h
 have tA:l.length=n:=by have:=S.1;rw[aw]at this;omega
 have nD:=xh tA;have RE:=xh (show rest.length=c*3-n*3 by rw[aw,tA]at LA;omega);have BD:=xh BG;have BE:=xh B2;have ff:g2≠g:=λh=>hg (by simp[ai,h]);have HCM:=xh tC;have Bw:=xh (show(l.insertIdx i e).length=n+1 from by rw[yK,tA,if_pos (by omega)]);unfold maxLen at tC;clear S tA LA;have s1:¬(i:Int)=(n:Int):=by omega
 have s2:(i:Int)<=(n:Int):=by omega
 have s3:(i:Int)<=(c:Int):=by omega
 have s4:¬c=i:=by omega
 have s8:IntKind.i64.wrap ((i:Int)+1)=(i:Int)+1:=IntWalk.i64_in _ (by omega);have s9:IntKind.i64.wrap ((n:Int)+1)=(n:Int)+1:=IntWalk.i64_in _ (by omega);have s10:((i:Int)+1).toNat=i+1:=by omega
 have s11:((n:Int)+1).toNat=n+1:=by omega
 have s12:(0:Int)<=(i:Int)+1:=by omega
 have s13:(0:Int)<=(n:Int)+1:=by omega
 have s14:(i:Int)+1<=(n:Int)+1:=by omega
 have s15:(i:Int)<=(n:Int)+1:=by omega
 have QI:=xh (show ∀j v,(aH (l.drop i))[j]?=some v->w.drew.cell? ((⟨g,i*3,none⟩:Addr).add j)=some v from λj v hv=>by
  rw[fe];refine(BD.o.drew.cell _).trans ?_;rw[<-me,gI]at hv;rw[dj,bF (aS.1 hv).1,hv])
 have hov:=λla ca lb cb=>Iu (w:=w) B2 BG ff (by simp[aw];have:=nD.o;omega) (by show 3≠0;decide) (by rw[show e.cells.toArray.size=3 from rfl];exact hf) ((i+1)*3) la ca lb cb;have s16:(n:Int)+1<=(c:Int):=by omega
 have s17:¬(c:Int)<(n:Int)+1:=by omega
 have s18:¬c=i+1:=by omega
 have s19:(i:Int)+1<=(c:Int):=by omega
 clear B2 BG hf hg;go_enter func74,ntmps74;go_wp2_with (simp only[hov]);refine wp_region_held_drew (S:=λ_=>True) (by kernel_rfl) (trivial) (λah=>?_);refine bM [(0,69),(1,70),(2,71),(3,72),(4,73),(5,74),(6,75),(7,76)] ?_
 iterate 8 refine aG ?_
 refine bY 8 77 λK hK=>?_;go_simp;obtain⟨w2,ea,B3,oa⟩:=uI (P:=prog) BD.o.drew 108 3 111 3 ((i+1)*3) (n-i) (c-(i+1)) ⟨g,i*3,none⟩ (n+1-i) (c-i) (aH (l.drop i)) underlying108 nR (by rw[aw,cO,nD.o,show Nat.min (n+1-i) (n-i)=n-i from by simp only[Nat.min_def];split<;>omega]) QI.o (by rw[aw,cO,aU,aw,nD.o,RE.o];omega) (lC _);have EA:=xh ea;have B3:=xh B3
 have OA:=xh oa;clear ea oa;rw[EA.o];go_simp;refine aA hK (trivial) (λah=>?_);refine wpAnyH_done (by kernel_rfl) ?_ _;have BE3:=BE.o.drew.only OA.o (by simpa using ff)
 obtain⟨w3,eb,B4,ob⟩:=uI (P:=prog) B3.o 108 3 111 3 (i*3) (n+1-i) (c-i) ⟨g2,0,none⟩ 1 cc e.cells underlying108 nR (by show 3=_;rw[show Nat.min 1 (n+1-i)=1 from by simp only[Nat.min_def];split<;>omega]) (bq (l:=e.cells) BE3 0 _ (by simp)) (by rw[ke (by rw[aw,cO,aU,aw,nD.o,RE.o];omega),aU,aw,nD.o,RE.o];show i*3+3<=_;omega) (wu e)
 rw[Ve l e rest i (by rw[nD.o];omega) (by rw[RE.o];omega)]at B4;have EB:=xh eb;have B4:=xh B4;have OB:=xh (OA.o.trans ob);clear eb ob BE3;go_wp2_with fail;rw[EB.o];go_wp2_with fail;go_ret;exact⟨_,_,by first|rfl|simp,⟨by rw[aw,Bw.o],.inr ⟨g,c,_,rfl,B4.o,by rw[aw,Bw.o,cO,RE.o];omega,HCM.o⟩⟩,by simpa [ai]using (ag.refl [g] w).drew.trans OB.o,λx hx=> .inl (by simpa [ai]using hx)⟩
noncomputable def FE(P:Program)(T U ty:TypeId)(w:World)(s x:Value):Result Value:=(Builtin.append_ #[T,U] ty #[s,x]).run P w
theorem QJ(P:Program)(ρ:Operand->Value)(dst:Option Tmp)(s x:Operand)(T U t:TypeId)(p:String)(af:Array Edge)(g:Option (Nat×Bool))(w:World):
  (execOp ρ {dst:=dst,op:= .call {callee:= .builtin .append,args:= #[s,x],argTypes:= #[T,U]},type:=t,pos:=p,after:=af,guard:=g}).run P w=(FE P T U t w (ρ s) (ρ x)).andThen λv w'=> .ok (.value v) w':=by
 simp[execOp,resolve,invoke,builtin,FE]
theorem Iv{w:World}{g c:Nat}{l:List E}{rest:List Value}(B:aJ w g 111 (aH l++rest).toArray)(i k:Nat)(hi:i<=l.length)(hk:0<k)(hc:c<i+k)(hm:i+k<=1000000):
  ∃w' G zs,FE prog 108 3 108 w (.slice (some ⟨g,0,none⟩) i c) (.int .i64 (k:Nat))= .ok (.slice (some ⟨w.heap.size,0,none⟩) (i+k) G) w'/\aJ w' w.heap.size 111 (aH (l.take i)++zs).toArray/\zs.length=(G-i)*3/\i+k<=G/\G<=maxLen/\Below w.heap.size w w':=by
 obtain⟨i0,Ge,kx,ju,kg⟩:=info_parts rn;have hold:(Builtin.firstCells i0.size i (.slice (some ⟨g,0,none⟩) i c)).run prog w.drew=.ok (aH (l.take i)).toArray w.drew:=by
  rw[ju];exact run_firstCells_some w.drew 3 i ⟨g,0,none⟩ i c (aH (l.take i)) (by rw[aw,bm];omega) (bq B.drew 0 _ (λj v hv=>by
   rw[bg,bF]
   .rw[<-wi,pM]at hv
    split at hv
    .exact hv
    .cases hv
   .have:=(aS.1 hv).1;rw[aw,bm]at this;rw[aw];omega))
 have h:=Lib.run_append_grow_zeros w 108 3 108 111 i0 _ .i64 .i64 underlying108 underlying3 Ge kx (some ⟨g,0,none⟩) i c (aH (l.take i)) hold k hk (by omega) hc (by omega) (by rw[kg];omega) (by rw[kg];exact growslice_fits (by omega) (by omega));have hG:=grownCap_ge w (i+k) c 111;have hG2:=grownCap_le_maxLen w (i+k) c 111 (by unfold maxLen;omega);have hzc:∀m,(Builtin.zeroCells (Value.agg #[.string ⟨#[]⟩,.string ⟨#[]⟩,.int .i64 0]).cells m).size=m*3:=λm=>by
  simp[Builtin.zeroCells,Value.cells]
 generalize grownCap w (i+k) c 111=G at *;have hA:∀(a b:Array Value),(aH (l.take i)).toArray++a++b=(aH (l.take i)++(a.toList++b.toList)).toArray:=λa b=>by
  apply rP.1;simp
 rw[hA]at h;have hzl:((Builtin.zeroCells (Value.agg #[.string ⟨#[]⟩,.string ⟨#[]⟩,.int .i64 0]).cells k).toList++(Builtin.zeroCells (Value.agg #[.string ⟨#[]⟩,.string ⟨#[]⟩,.int .i64 0]).cells (G-(i+k))).toList).length=(G-i)*3:=by
  rw[aU,RK,RK,hzc,hzc];omega
 generalize (Builtin.zeroCells (Value.agg #[.string ⟨#[]⟩,.string ⟨#[]⟩,.int .i64 0]).cells k).toList++(Builtin.zeroCells (Value.agg #[.string ⟨#[]⟩,.string ⟨#[]⟩,.int .i64 0]).cells (G-(i+k))).toList=ZS at *;refine⟨_,G,ZS,h,?_,hzl,hG,hG2,?_⟩
 .exact aJ.new w.drew 111 _
 .exact(Below.refl w.heap.size w).drew.alloc (ak _) _
theorem Vf(l:List E)(e:E)(zs:List Value)(i:Nat)(hi:i<l.length)(hz:(l.length+1-i)*3<=zs.length):
  putAt (putAt (aH (l.take i)++zs) (i*3) e.cells) ((i+1)*3) (aH (l.drop i))=aH (l.insertIdx i e)++zs.drop ((l.length+1-i)*3):=by
 have e0:e.cells.length=3:=rfl;have e2:(aH (l.take i)).length=i*3:=by rw[aw,bm];omega
 have e3:(aH (l.drop i)).length=(l.length-i)*3:=by rw[aw,cO]
 have a1:putAt (aH (l.take i)++zs) (i*3) e.cells=(aH (l.take i)++e.cells)++zs.drop 3:=by
  unfold putAt;rw[<-e2,qP,e0,<-iK,sj]
 have a2:(aH (l.take i)++e.cells).length=(i+1)*3:=by rw[aU,e2,e0];omega
 rw[a1,yD e l i (by omega),gl,kM];have e4:zs.drop ((l.length+1-i)*3)=(zs.drop 3).drop ((l.length-i)*3):=by rw[iK];congr 1;omega
 unfold putAt;rw[<-a2,qP,<-iK,sj,e3,e4];simp only[cr]
end
section
attribute [local go_sem ↓] Go.wp_at_zero Go.wp_at_succ QJ Is Vd
theorem FG{w:World}{A:Option Addr}{n c:Nat}{l:List E}(S:aT w 111 3 (.slice A n c) n (aH l))(e:E){g2 cc:Nat}(B2:aJ w g2 111 e.cells.toArray)(hn:n<=100000)(hg:g2∉ai (.slice A n c))(i:Nat)(hi:i<n)(hc:c<n+1):
  Calls prog 74 #[.slice A n c,.int .i64 (i:Nat),.slice (some ⟨g2,0,none⟩) 1 cc] w λr w'=> ∃A' c',r=.returned (.slice A' (n+1) c')/\aT w' 111 3 (.slice A' (n+1) c') (n+1) (aH (l.insertIdx i e))/\ag (ai (.slice A n c)) w w'/\∀x∈ai (.slice A' (n+1) c'),x∈ai (.slice A n c)\/w.heap.size<=x:=by
 obtain⟨g,cap,rest,hv,BG,hcn,LA⟩:=S.form (by omega) (by omega);simp only[Value.slice.injEq,true_and]at hv;obtain⟨rfl,rfl⟩:=hv;have tC:c<=maxLen:=by obtain⟨_,_,_,_,h⟩:=S.tx;exact h
 have tA:l.length=n:=by have:=S.1;rw[aw]at this;omega
 have nD:=xh tA;have RE:=xh (show rest.length=c*3-n*3 by rw[aw,tA]at LA;omega);have BD:=xh BG;have BE:=xh B2;have ff:g2≠g:=λh=>hg (by simp[ai,h]);have HCM:=xh tC;have Bw:=xh (show(l.insertIdx i e).length=n+1 from by rw[yK,tA,if_pos (by omega)]);unfold maxLen at tC;clear S tA LA;have s1:¬(i:Int)=(n:Int):=by omega
 have s2:(i:Int)<=(n:Int):=by omega
 have s3:(i:Int)<=(c:Int):=by omega
 have s4:¬c=i:=by omega
 have s8:IntKind.i64.wrap ((i:Int)+1)=(i:Int)+1:=IntWalk.i64_in _ (by omega);have s9:IntKind.i64.wrap ((n:Int)+1)=(n:Int)+1:=IntWalk.i64_in _ (by omega);have s10:((i:Int)+1).toNat=i+1:=by omega
 have s11:((n:Int)+1).toNat=n+1:=by omega
 have s12:(0:Int)<=(i:Int)+1:=by omega
 have s13:(0:Int)<=(n:Int)+1:=by omega
 have s14:(i:Int)+1<=(n:Int)+1:=by omega
 have s15:(i:Int)<=(n:Int)+1:=by omega
 have QI:=xh (show ∀W,aJ W g 111 (aH l++rest).toArray->∀j v,(aH (l.drop i))[j]?=some v->W.cell? ((⟨g,i*3,none⟩:Addr).add j)=some v from λW BW j v hv=>by
  rw[fe];refine(BW.cell _).trans ?_;rw[<-me,gI]at hv;rw[dj,bF (aS.1 hv).1,hv])
 obtain⟨w2,G,zs,ea,B3,hz,hG,hG2,cA⟩:=Iv (c:=c) BG i (n+1-i) (by rw[nD.o];omega) (by omega) (by omega) (by omega);rw[show i+(n+1-i)=n+1 by omega]at ea hG;have EA:=xh ea;have B3:=xh B3;have HZ:=xh hz;have Fu:=xh cA;have BE2:=xh (BE.o.below cA BE.o.lt);have BG2:=xh (BD.o.below cA BD.o.lt);have HGW:=xh (show g<w.heap.size/\g2<w.heap.size from⟨BD.o.lt,BE.o.lt⟩);have s17:(c:Int)<(n:Int)+1:=by omega
 have s20:(n:Int)+1-(i:Int)=((n+1-i:Nat):Int):=by omega
 have s21:IntKind.i64.wrap (((n+1-i:Nat):Int))=((n+1-i:Nat):Int):=IntWalk.i64_in _ (by omega);have s22:¬G=i:=by omega
 have s23:¬G=i+1:=by omega
 have s24:(n:Int)+1<=(G:Int):=by omega
 have s25:(i:Int)<=(G:Int):=by omega
 have s26:(i:Int)+1<=(G:Int):=by omega
 unfold maxLen at hG2;have HG2:=xh hG2;clear B2 BG hg ea hz cA;go_enter func74,ntmps74;go_wp2_with fail;rw[EA.o]
 obtain⟨w3,eb,B4,oa⟩:=uI (P:=prog) B3.o 108 3 111 3 (i*3) (n+1-i) (G-i) ⟨g2,0,none⟩ 1 cc e.cells underlying108 nR (by show 3=_;rw[show Nat.min 1 (n+1-i)=1 from by simp only[Nat.min_def];split<;>omega]) (bq (l:=e.cells) BE2.o 0 _ (by simp)) (by rw[aU,aw,bm,nD.o,HZ.o];show i*3+3<=_;omega) (wu e);have EB:=xh eb;have B4:=xh B4;have HBG:=xh (BG2.o.only oa (by simp;have:=HGW.o;omega))
 have OA:=xh oa;have HFT:=xh (show(i+1)*3+(aH (l.drop i)).length<=(putAt (aH (l.take i)++zs) (i*3) e.cells).length from by
  rw[ke (by rw[aU,aw,bm,nD.o,HZ.o];show i*3+3<=_;omega),aU,aw,aw,bm,cO,nD.o,HZ.o];omega)
 clear eb oa;go_wp2_with fail;rw[EB.o];go_wp2_with fail;refine wp_region_held_drew (S:=λ_=>True) (by kernel_rfl) (trivial) (λah=>?_);refine bM [(0,46),(1,47),(2,48),(3,49),(4,50),(5,51),(6,52),(7,53)] ?_
 iterate 8 refine aG ?_
 refine bY 8 54 λK hK=>?_;go_simp;obtain⟨w4,eb,B5,ob⟩:=uI (P:=prog) B4.o.drew 108 3 111 3 ((i+1)*3) (n-i) (G-(i+1)) ⟨g,i*3,none⟩ (n-i) (c-i) (aH (l.drop i)) underlying108 nR (by rw[aw,cO,nD.o,show Nat.min (n-i) (n-i)=n-i from Nat.min_self _]) (QI.o _ HBG.o.drew) HFT.o (lC _);have EB:=xh eb;have B5:=xh B5;have OB:=xh ob;clear eb ob;rw[EB.o];go_simp;refine aA hK (trivial) (λah=>?_)
 refine wpAnyH_done (by kernel_rfl) ?_ _;have B6:=B5.o;rw[Vf l e zs i (by rw[nD.o];omega) (by rw[nD.o,HZ.o];omega)]at B6;have B6:=xh B6;have OC:=xh (Fu.o.mono (ak _));go_wp2_with fail;go_ret;refine⟨_,_,by first|rfl|simp,⟨by rw[aw,Bw.o],.inr ⟨w.heap.size,G,_,rfl,B6.o,by rw[aw,Bw.o,cO,HZ.o,nD.o];omega,HG2.o⟩⟩,?_,λx hx=> .inr (by simp[ai]at hx;omega)⟩
 have o4:=((ag.refl [w.heap.size] w3).drew).trans OB.o;exact((ag.aj (S:=[]) Fu.o).aO (OA.o.trans o4) (λx hx dH=>by simp at hx;omega)).mono (λx hx _=>by simp at hx)
end
attribute [local go_sem ↓] Go.wp_at_zero Go.wp_at_succ bz Is Vd
theorem qt{w:World}{A:Option Addr}{n c:Nat}{l:List E}(S:aT w 111 3 (.slice A n c) n (aH l))(e:E){g2 cc:Nat}(B2:aJ w g2 111 e.cells.toArray)(hn:n<=100000)(hg:g2∉ai (.slice A n c))(i:Nat)(hi:i<=n)(hf:w.frozen? ⟨g2,3,none⟩=false):
  Calls prog 74 #[.slice A n c,.int .i64 (i:Nat),.slice (some ⟨g2,0,none⟩) 1 cc] w λr w'=> ∃A' c',r=.returned (.slice A' (n+1) c')/\aT w' 111 3 (.slice A' (n+1) c') (n+1) (aH (l.insertIdx i e))/\ag (ai (.slice A n c)) w w'/\∀x∈ai (.slice A' (n+1) c'),x∈ai (.slice A n c)\/w.heap.size<=x:=by
 have hl:=S.1;rw[aw]at hl
 rcases eR i n with h|h
 .rcases eR c (n+1)with h1|h1
  .exact FG S e B2 hn hg i h h1
  .exact FD S e B2 hn hg i h hf h1
 .obtain rfl:i=n:=by omega
  have:=It S e (cc:=cc) B2 hn
  rwa [show l++[e]=l.insertIdx i e from by rw[yD e l i (by omega),cy (by omega),lJ (by omega)]]at this
theorem Mq{w:World}{A:Option Addr}{n c:Nat}{l:List E}(S:aT w 111 3 (.slice A n c) n (aH l))(hn:n<=100000)(h0:0<n):
  Calls prog 217 #[.slice A n c] w λr w'=> ∃g c',r=.returned (.slice (some ⟨g,0,none⟩) n c')/\aT w' 111 3 (.slice (some ⟨g,0,none⟩) n c') n (aH l)/\Below w.heap.size w w'/\w.heap.size<=g:=by
 obtain⟨g,cap,rest,hv,BG,hcn,LA⟩:=S.form h0 (by omega);simp only[Value.slice.injEq,true_and]at hv;obtain⟨rfl,rfl⟩:=hv;obtain⟨i0,hi,kx,ju,kg⟩:=info_parts rn;have hl:=S.1;rw[aw]at hl;have BN:=aJ.new w 111 #[];have S0:aT (w.alloc (.cells #[] 111)) 111 3 (.slice (some ⟨w.heap.size,0,none⟩) 0 0) 0 []:=⟨rfl,.inr ⟨w.heap.size,0,[],rfl,BN,rfl,by unfold maxLen;omega⟩⟩;have BG2:=BG.alloc (.cells #[] 111)
 obtain⟨v',w',ea,S2,o2,f2⟩:=dk (P:=prog) S0 108 108 i0 _ 40 underlying108 hi kx ju kg rfl (by omega) ⟨g,0,none⟩ n c (aH l) (by rw[aw];exact hl) (bq BG2 0 _ (λj v hj=>by rw[bg,bF (aS.1 hj).1];exact hj)) (lC l) (by unfold maxLen;omega) (by omega);rw[cW,bg]at S2;obtain⟨gg,cc,_,rfl,_,_⟩:=S2.form h0 (by omega)
 have EA:=xh (show dP prog 108 108 (w.alloc (.cells #[] 111)) (.slice (some ⟨w.heap.size,0,none⟩) 0 0) (.slice (some ⟨g,0,none⟩) n c)=_ from ea);have Qw:w.heap.size<=gg:=by
  rcases f2 gg (by simp[ai])with h|h
  .simp[ai]at h;omega
  .simp at h;omega
 have hb:Below w.heap.size w w':=((Below.refl w.heap.size w).alloc (ak _) _).trans (o2.aI (by simp) (λx hx=>by simp[ai]at hx;omega));have S2:=xh S2;have hb:=xh hb;have Qw:=xh Qw;have HE:=Lib.run_eql_slice_nil (P:=prog) w 108 111 (some ⟨g,0,none⟩) n c 0 0 underlying108;clear BG BG2 BN S0 S ea o2 f2 hi kx ju kg hl LA;go_enter func217,ntmps217;go_wp2_with fail;rw[EA.o];go_wp2_with fail;go_ret
 exact⟨gg,cc,by first|rfl|simp,S2.o,hb.o,Qw.o⟩
end Nd
end
namespace Sh
open Go.RowKit Pk Dk Pg
open Nd (E aH bA aX bj dN)
attribute [local go_sem ↓] Go.wp_at_zero Go.wp_at_succ
variable{K' tb n K:Nat}{w:World}{I:Ix}{F:List Nat}
def yf(e:Int):Int:=if e=3\/e=6 then 14 else e
def QS.bJ(q:QS)(p:Int):QS×Bool×List E×Int:=
 if(q.dK p).2.2≠0 then((q.dK p).1,false,[],yf (q.dK p).2.2)
 else((q.dK p).1,(aX (q.dK p).2.1.data.toList).1,(aX (q.dK p).2.1.data.toList).2.1,yf (aX (q.dK p).2.1.data.toList).2.2)
def blank(leaf:Bool)(l:List E):List E:=match leaf,l with
 |false,e::r=>{e with key:=⟨#[]⟩}::r
 |_,l=>l
def bH(leaf:Bool)(l:List E):List UInt8×Int:=bj leaf (blank leaf l)
def QS.db(q:QS)(p:Int)(leaf:Bool)(l:List E):QS×Int:=if(bH leaf l).2≠0 then(q,(bH leaf l).2)else q.dM p ⟨(bH leaf l).1.toArray⟩
def QS.eB(q:QS)(leaf:Bool)(l:List E):QS×Int×Int:=if(bH leaf l).2≠0 then(q,0,(bH leaf l).2)else q.bV (bH leaf l).1
def tp(b:Nat):Value:= .pointer (some ⟨b,0,none⟩)
def TQ(w:World)(tb:Nat)(I:Ix)(F:List Nat)(q:QS)(n K:Nat):Prop:=aJ w tb 130 #[pp I.pb]/\PQ w I F q n K
section
variable{w w':World}{tb:Nat}{I:Ix}{F S:List Nat}{q q':QS}{n K:Nat}
theorem TQ.ne(h:TQ w tb I F q n K):tb∉F:=h.2.iV h.1
theorem TQ.below(h:TQ w tb I F q n K)(hb:Below w.heap.size w w'):TQ w' tb I F q n K:=⟨h.1.below hb h.1.lt,h.2.below hb⟩
theorem TQ.only(h:TQ w tb I F q n K)(o:ag S w w')(hd:∀g∈tb::F,g∉S):TQ w' tb I F q n K:=⟨h.1.only o (hd _ (fY ..)),h.2.only o (λg hg=>hd g (ax _ hg))⟩
theorem TQ.lt(h:TQ w tb I F q n K):∀g∈tb::F,g<w.heap.size:=λg hg=>(an.1 hg).elim (λe=>by rw[e];exact h.1.lt) (h.2.lt g)
theorem TQ.le(h:TQ w tb I F q n K)(hk:K<=K'):TQ w tb I F q n K':=⟨h.1,h.2.le hk⟩
theorem TQ.next(h:TQ w tb I F q n K)(o:ag F w w')(p:PQ w' I F q' n K'):TQ w' tb I F q' n K':=⟨h.1.only o h.ne,p⟩
end
theorem lZ(l:List E):(aH l).length=l.length*3:=Nd.aw l
theorem Au(e:Int)(w:World):Calls prog 112 #[.int .i64 e] w λr w'=>r=.returned (.int .i64 (yf e))/\w=w':=by
 unfold yf
 by_cases h3:e=3
 .subst h3;go_enter func112,ntmps112;go_wp2_with fail;go_ret;exact aE rfl
 .have q3:(e==3)=false:=by rw[beq_eq_false_iff_ne];exact h3
  by_cases h6:e=6
  .subst h6;go_enter func112,ntmps112;go_wp2_with fail;go_ret;exact aE rfl
  .have q6:(e==6)=false:=by rw[beq_eq_false_iff_ne];exact h6
   rw[if_neg (by omega)];go_enter func112,ntmps112;go_wp2_with fail;go_ret;exact aE rfl
theorem FH{g:Nat}{b b':Bool}{v v':Value}(B:aJ w g 118 #[.bool b,v]):
  aJ ((w.setCell ⟨g,0,none⟩ (.bool b')).setCell ⟨g,1,none⟩ v') g 118 #[.bool b',v']/\ag [g] w ((w.setCell ⟨g,0,none⟩ (.bool b')).setCell ⟨g,1,none⟩ v')/\
   w.cell? ⟨g,0,none⟩=some (.bool b)/\w.cell? ⟨g,1,none⟩=some v/\w.frozen? ⟨g,0,none⟩=false/\w.frozen? ⟨g,1,none⟩=false:=
 ⟨(B.bE 0 _).bE 1 _,((ag.refl _ _).setCell (by simp) _).setCell (by simp) _,B.ab rfl,B.ab rfl,B.frozen 0 (by simp),B.frozen 1 (by simp)⟩
theorem nS{q:QS}(h:TQ w tb I F q n K)(hK:K<=999999999999)(p:Int):
  Calls prog 70 #[tp tb,.int .i64 p] w λe w'=> ∃A c,e=.returned (.tuple #[bA (q.bJ p).2.1 A (q.bJ p).2.2.1.length c,.int .i64 (q.bJ p).2.2.2])/\
   aT w' 111 3 (.slice A (q.bJ p).2.2.1.length c) (q.bJ p).2.2.1.length (aH (q.bJ p).2.2.1)/\(∀g∈ai (.slice A (q.bJ p).2.2.1.length c),w.heap.size<=g)/\PQ w' I F (q.bJ p).1 n (K+1)/\ag F w w':=by
 have O0:=xh (ae (Below.refl w.heap.size w) (.cells #[.bool false,.slice none 0 0] 118));have B0:=xh (aJ.new w 118 #[.bool false,.slice none 0 0]);have T0:=h.below O0.o;have p0:=T0.1.ab (i:=0) rfl;have NQ:=xh (show w.heap.size∉F from λhm=>by have:=h.2.lt _ hm;omega);have KG:=xh (uy T0.2 hK p);have KB:=xh Au;have hgs:=λh0=>zN h.2.wp (p:=p) h0;unfold QS.bJ;generalize q.dK p=R at *;obtain⟨q1,s,er⟩:=R;dsimp only at *
 clear h T0;unfold pp tp bA at *
 by_cases he:er=0
 .subst he;have hs:=hgs rfl;rw[if_neg (by simp)];have KN:=xh (λ(W:World)=>Nd.Vc s W (by omega));generalize aX s.data.toList=G at *;obtain⟨leaf,l,er⟩:=G;dsimp only at *;unfold bA at *;clear hgs hs;go_enter func70,ntmps70;go_wp2_with fail;refine KG.o.mono ?_;rintro e w1 ⟨rfl,P1,o1⟩;have P1:=xh P1;have B1:=xh (B0.o.only o1 NQ.o);have o1:=xh o1;clear p0;go_wp2_with fail;refine(KN.o _).mono ?_;rintro e w2 ⟨A,c,rfl,S2,f2,cA⟩
  have S2:=xh S2;have f2:=xh f2;have P2:=xh (P1.o.below cA);have B2:=xh (B1.o.below cA B1.o.lt);have O2:=xh (o1.o.trans (.aj cA));clear cA;go_wp2_with fail;have NE:=xh (show ¬w2.heap.size=w.heap.size from by have:=O2.o.size;simp at this;omega);have C3:=xh (aJ.new w2 118 #[.bool leaf,.slice A l.length c]);have B3:=xh (B2.o.alloc (.cells #[.bool leaf,.slice A l.length c] 118))
  have S3:=xh (S2.o.alloc (.cells #[.bool leaf,.slice A l.length c] 118));have gV:=ae (Below.refl w2.heap.size w2) (.cells #[.bool leaf,.slice A l.length c] 118);have P3:=xh (P2.o.below gV);have O3:=xh (O2.o.trans (.aj gV));have f3:=xh (show ∀g∈ai (.slice A l.length c),w.heap.size<=g/\g≠w.heap.size from λg hg=>by have h1:=f2.o g hg;have h2:=o1.o.size;simp at h2;omega);clear gV
  generalize w2.alloc (.cells #[.bool leaf,.slice A l.length c] 118)=w3 at *;generalize w2.heap.size=g2 at *;have C3d:=xh C3.o.drew;have KS:=xh (And.intro (C3d.o.ab (i:=0) rfl) (C3d.o.ab (i:=1) rfl));clear C3;have C3:=C3d;have B3:=xh B3.o.drew;have S3:=xh S3.o.drew;have P3:=xh P3.o.drew;have O3:=xh O3.o.drew
  refine wp_region_held_drew (S:=λW=>W.cell? ⟨g2,0,none⟩=some (.bool leaf)/\W.cell? ⟨g2,1,none⟩=some (.slice A l.length c)) (by kernel_rfl) (KS.o) (λah=>?_);generalize w3.drew=w4 at *;refine bM [(0,28),(1,29)] ?_
  iterate 2 refine aG ?_
  refine bY 2 30 λK hK=>?_;go_simp
  go_at_call 112
  refine(KB.o _ _).mono ?_;rintro e w5 ⟨rfl,rfl⟩;go_simp;refine aA hK (KS.o) (λah=>?_);refine dv 3 λK hK=>?_;go_simp;obtain⟨B4,o4,d0,d1,z0,z1⟩:=FH (b':=leaf) (v':= .slice A l.length c) B3.o;have B4:=xh B4;have C4:=xh (C3.o.only o4 (by simpa using NE.o));have KS4:=xh (And.intro (C4.o.ab (i:=0) rfl) (C4.o.ab (i:=1) rfl));have o4:=xh o4;go_simp;refine aA hK (KS4.o) (λah=>?_);refine bM [(4,5)] ?_
  iterate 1 refine aG ?_
  refine wpAnyH_done (by kernel_rfl) ?_ _;go_wp2_with fail;exact bodyPost_ret (Nd.fG rfl rfl B4.o) rfl ⟨A,c,rfl,S3.o.only o4.o (λg hg hm=>(f3.o g hg).2 (by simpa using hm)),λg hg=>(f3.o g hg).1,P3.o.aW o4.o NQ.o,l8 (((ag.aj (S:=w.heap.size::F) O0.o).trans (l9 O3.o)).trans (ma o4.o)) (ak _)⟩
 .rw[if_pos he];have hq:(er != 0)=true:=by rw[bne_iff_ne];exact he
  have kt:(er==0)=false:=by rw[beq_eq_false_iff_ne];exact he
  clear hgs;go_enter func70,ntmps70;go_wp2_with fail;refine KG.o.mono ?_;rintro e w1 ⟨rfl,P1,o1⟩;have P1:=xh P1;have B1:=xh (B0.o.only o1 NQ.o);have o1:=xh o1;clear p0;go_wp2_with fail;refine(KB.o _ _).mono ?_;rintro e w2 ⟨rfl,rfl⟩;obtain⟨B2,o2,c0,c1,z0,z1⟩:=FH (b':=false) (v':= .slice none 0 0) B1.o;have B2:=xh B2;have o2:=xh o2;go_wp2_with fail
  exact bodyPost_ret (Nd.fG rfl rfl B2.o) rfl ⟨none,0,rfl,aT.nil _ _ _,by simp[ai],P1.o.aW o2.o NQ.o,l8 (((ag.aj (S:=w.heap.size::F) O0.o).trans (l9 o1.o)).trans (ma o2.o)) (ak _)⟩
theorem Av(leaf:Bool)(A:Option Addr)(n c:Nat)(l:List E)(S:aT w 111 3 (.slice A n c) n (aH l))(hn:n<=1000):
  Calls prog 175 #[bA leaf A n c] w λe w'=>e=.returned (.tuple #[.string ⟨(bH leaf l).1.toArray⟩,.int .i64 (bH leaf l).2])/\Below w.heap.size w w':=by
 have O0:=xh (ae (Below.refl w.heap.size w) (.cells #[.bool leaf,.slice A n c] 118));have B0:=xh (aJ.new w 118 #[.bool leaf,.slice A n c]);have S0:=xh (S.below O0.o);have x0:=B0.o.ab (i:=0) rfl;have x1:=B0.o.ab (i:=1) rfl;have hl:=S.1;rw[lZ]at hl
 by_cases hc:leaf=false/\0<n
 .obtain⟨rfl,h0⟩:=hc;obtain⟨e,r,rfl⟩:∃e r,l=e::r:=by
   cases l with
   |nil=>simp at hl;omega
   |cons e r=>exact⟨e,r,rfl⟩
  have KC:=xh (λ(W:World) (hb:Below (w.alloc (.cells #[.bool false,.slice A n c] 118)).heap.size (w.alloc (.cells #[.bool false,.slice A n c] 118)) W)=>Nd.Mq (S0.o.below hb) (by omega) h0);have KP:=xh (λ(W:World) (g c1:Nat) (h:aT W 111 3 (.slice (some ⟨g,0,none⟩) n c1) n (aH (blank false (e::r))))=>Nd.Aq (w:=W) false (some ⟨g,0,none⟩) n c1 (blank false (e::r)) (Nd.aT.aH h).2 hn);unfold bH;generalize bj false (blank false (e::r))=R at *
  have h0I:(0:Int)<(n:Int):=by omega
  have HN:=xh h0;clear S hl;unfold bA at *;go_enter func175,ntmps175;go_wp2_with fail;refine(KC.o _ (Below.refl _ _)).mono ?_;rintro e2 w1 ⟨g,c1,rfl,S1,bf,hg⟩;have B1:=xh (B0.o.below bf B0.o.lt);have O1:=xh (aB O0.o bf);have ff:g≠w.heap.size:=by simp at hg;omega
  obtain⟨rest,BG,UJ,_,hr2⟩:=S1.tx;have y0:=B1.o.ab (i:=0) rfl;have y1:=B1.o.ab (i:=1) rfl;have y2:=B1.o.frozen 1 (by simp);have B2:=xh (B1.o.bE 1 (.slice (some ⟨g,0,none⟩) n c1));have BG2:=BG.aW (p:=⟨w.heap.size,1,none⟩) (by simpa using ff) (.slice (some ⟨g,0,none⟩) n c1);have z0:=BG2.ab (i:=0) (v:= .string e.key) rfl;have z1:=BG2.frozen 0 (by simp[Nd.aH,E.cells]);have BG3:=BG2.bE 0 (.string ⟨#[]⟩)
  have S3:=xh (show aT ((w1.setCell ⟨w.heap.size,1,none⟩ (.slice (some ⟨g,0,none⟩) n c1)).setCell ⟨g,0,none⟩ (.string ⟨#[]⟩)) 111 3 (.slice (some ⟨g,0,none⟩) n c1) n (aH (blank false (e::r)))from
   ⟨by have:=S1.1;rw[lZ]at this ⊢;simpa [blank]using this,.inr ⟨g,c1,rest,rfl,by simpa [blank,Nd.aH,E.cells]using BG3,by rw[lZ]at UJ ⊢;simpa [blank]using UJ,hr2⟩⟩)
  have B3:=xh (B2.o.aW (p:=⟨g,0,none⟩) (by simpa using λh=>ff h.symm) (.string ⟨#[]⟩));have u1:=B2.o.ab (i:=1) rfl;have v0:=B3.o.ab (i:=0) rfl;have v1:=B3.o.ab (i:=1) rfl;have O3:=xh (show Below w.heap.size w ((w1.setCell ⟨w.heap.size,1,none⟩ (.slice (some ⟨g,0,none⟩) n c1)).setCell ⟨g,0,none⟩ (.string ⟨#[]⟩))from
   ((ag.aj (S:=[w.heap.size,g]) O1.o).aO (((ag.refl [w.heap.size,g] w1).setCell (by simp) _).setCell (by simp) _) (λx hx _=>hx)).aI (ak _) (λx hx=>by simp at hx hg;omega))
  clear BG BG2 BG3 S1 bf UJ hr2 hg;go_wp2_with fail;refine(KP.o _ g c1 S3.o).mono ?_;rintro e3 w4 ⟨rfl,jw⟩;have O4:=xh (aB O3.o jw);clear jw;go_wp2_with fail;go_ret2;exact aE O4.o
 .have rS:blank leaf l=l:=by
   unfold blank
   split
   .exfalso;refine hc ⟨rfl,?_⟩;simp at hl;omega
   .rfl
  have KP:=xh (Nd.Aq leaf A n c l (Nd.aT.aH S0.o).2 hn);unfold bH;rw[rS];generalize bj leaf l=R at *;clear S hl rS;unfold bA at *
  cases leaf
  .obtain rfl:n=0:=by
    by_cases h:0<n
    .exact absurd ⟨rfl,h⟩ hc
    .omega
   clear hc;go_enter func175,ntmps175;go_wp2_with fail;refine KP.o.mono ?_;rintro e3 w4 ⟨rfl,jw⟩;have O4:=xh (aB O0.o jw);clear jw;go_wp2_with fail;go_ret2;exact aE O4.o
  .clear hc;go_enter func175,ntmps175;go_wp2_with fail;refine KP.o.mono ?_;rintro e3 w4 ⟨rfl,jw⟩;have O4:=xh (aB O0.o jw);clear jw;go_wp2_with fail;go_ret2;exact aE O4.o
theorem Iw(leaf:Bool)(l:List E):(bH leaf l).1.length<=232:=Nd.xG leaf _
theorem oY{q:QS}(h:TQ w tb I F q n K)(hK:K<=999999999999)(p:Int)(leaf:Bool)(A:Option Addr)(m c:Nat)(l:List E)(S:aT w 111 3 (.slice A m c) m (aH l))(hm:m<=1000):
  Calls prog 127 #[tp tb,.int .i64 p,bA leaf A m c] w λe w'=>e=.returned (.int .i64 (q.db p leaf l).2)/\PQ w' I F (q.db p leaf l).1 n (K+1)/\ag F w w':=by
 have O0:=xh (ae (Below.refl w.heap.size w) (.cells #[.bool leaf,.slice A m c] 118));have B0:=xh (aJ.new w 118 #[.bool leaf,.slice A m c]);have x0:=B0.o.ab (i:=0) rfl;have x1:=B0.o.ab (i:=1) rfl;have T0:=xh (h.below O0.o);have KL:=xh (Av leaf A m c l (S.below O0.o) hm);have hlen:=Iw leaf l;have KP:=xh (λ(W:World) (hW:TQ W tb I F q n K) (s:ByteArray) (hs:s.size<=232)=>Uu hW.2 hK p s hs);unfold QS.db
 generalize bH leaf l=R at *;obtain⟨R1,R2⟩:=R;dsimp only at *;obtain⟨s,hs⟩:∃s:ByteArray,s=⟨R1.toArray⟩:=⟨_,rfl⟩;have pF:s.size<=232:=by rw[hs];show R1.toArray.size<=232;simpa using hlen
 have Bs:R1=s.data.toList:=by rw[hs]
 rw[Bs]at KL ⊢;rw[show(⟨s.data.toList.toArray⟩:ByteArray)=s from rfl]at KL;clear hs Bs hlen S h;unfold bA tp at *;unfold pp at KP
 by_cases he:R2=0
 .subst he;rw[if_neg (by simp)];go_enter func127,ntmps127;go_wp2_with fail;refine KL.o.mono ?_;rintro e w1 ⟨rfl,bf⟩;have T1:=xh (T0.o.below bf);have O1:=xh (aB O0.o bf);have p0:=T1.o.1.ab (i:=0) rfl;unfold pp at p0;clear bf x0 x1;go_wp2_with fail;refine(KP.o _ T1.o s pF).mono ?_;rintro e w2 ⟨rfl,P2,o2⟩;have P2:=xh P2;have o2:=xh o2;clear p0;go_wp2_with fail;go_ret;exact aE ⟨P2.o,(ag.aj O1.o).trans o2.o⟩
 .rw[if_pos he];have hq:(R2 != 0)=true:=by rw[bne_iff_ne];exact he
  have kt:(R2==0)=false:=by rw[beq_eq_false_iff_ne];exact he
  go_enter func127,ntmps127;go_wp2_with fail;refine KL.o.mono ?_;rintro e w1 ⟨rfl,bf⟩;have T1:=xh (T0.o.below bf);have O1:=xh (aB O0.o bf);clear bf x0 x1;go_wp2_with fail;go_ret;exact aE ⟨T1.o.2.le (by omega),.aj O1.o⟩
theorem wv{q:QS}(h:TQ w tb I F q n K)(hK:K<=999999999999)(leaf:Bool)(A:Option Addr)(m c:Nat)(l:List E)(S:aT w 111 3 (.slice A m c) m (aH l))(hm:m<=1000):
  Calls prog 131 #[tp tb,bA leaf A m c] w λe w'=>e=.returned (.tuple #[.int .i64 (q.eB leaf l).2.1,.int .i64 (q.eB leaf l).2.2])/\PT w w' I F (q.eB leaf l).1 n (K+1):=by
 have O0:=xh (ae (Below.refl w.heap.size w) (.cells #[.bool leaf,.slice A m c] 118));have B0:=xh (aJ.new w 118 #[.bool leaf,.slice A m c]);have x0:=B0.o.ab (i:=0) rfl;have x1:=B0.o.ab (i:=1) rfl;have T0:=xh (h.below O0.o);have KL:=xh (Av leaf A m c l (S.below O0.o) hm);have hlen:=Iw leaf l;have KP:=xh (λ(W:World) (hW:TQ W tb I F q n K) (s:ByteArray) (hs:s.size<=232)=>zM hW.2 (by omega) s hs);unfold QS.eB
 generalize bH leaf l=R at *;obtain⟨R1,R2⟩:=R;dsimp only at *;obtain⟨s,hs⟩:∃s:ByteArray,s=⟨R1.toArray⟩:=⟨_,rfl⟩;have pF:s.size<=232:=by rw[hs];show R1.toArray.size<=232;simpa using hlen
 have Bs:R1=s.data.toList:=by rw[hs]
 rw[Bs]at KL ⊢;rw[show(⟨s.data.toList.toArray⟩:ByteArray)=s from rfl]at KL;clear hs Bs hlen S h;unfold bA tp at *;unfold pp at KP
 by_cases he:R2=0
 .subst he;rw[if_neg (by simp)];go_enter func131,ntmps131;go_wp2_with fail;refine KL.o.mono ?_;rintro e w1 ⟨rfl,bf⟩;have T1:=xh (T0.o.below bf);have O1:=xh (aB O0.o bf);have p0:=T1.o.1.ab (i:=0) rfl;unfold pp at p0;clear bf x0 x1;go_wp2_with fail;refine(KP.o _ T1.o s pF).mono ?_;rintro e w2 ⟨rfl,P2⟩;have P2:=xh P2;clear p0;go_wp2_with fail;go_ret2;obtain⟨F2,a,b,c⟩:=P2.o
  exact aE ⟨F2,a,(ag.aj O1.o).trans b,λg hg=>(c g hg).imp id (λh=>ar O1.o.size h)⟩
 .rw[if_pos he];have hq:(R2 != 0)=true:=by rw[bne_iff_ne];exact he
  have kt:(R2==0)=false:=by rw[beq_eq_false_iff_ne];exact he
  go_enter func131,ntmps131;go_wp2_with fail;refine KL.o.mono ?_;rintro e w1 ⟨rfl,bf⟩;have T1:=xh (T0.o.below bf);have O1:=xh (aB O0.o bf);clear bf x0 x1;go_wp2_with fail;go_ret2;exact aE (.self (T1.o.2.le (by omega)) (.aj O1.o))
theorem QK(leaf:Bool)(A:Option Addr)(m c:Nat)(l:List E)(S:aT w 111 3 (.slice A m c) m (aH l))(hm:m<=1000)(b:Bool)(hb:b=decide ((bH leaf l).2=0)):
  Calls prog 128 #[bA leaf A m c] w λe w'=>e=.returned (.bool b)/\Below w.heap.size w w':=by
 have O0:=xh (ae (Below.refl w.heap.size w) (.cells #[.bool leaf,.slice A m c] 118));have B0:=xh (aJ.new w 118 #[.bool leaf,.slice A m c]);have x0:=B0.o.ab (i:=0) rfl;have x1:=B0.o.ab (i:=1) rfl;have KL:=xh (Av leaf A m c l (S.below O0.o) hm);generalize bH leaf l=R at *;obtain⟨R1,R2⟩:=R;dsimp only at *;clear S;unfold bA at *
 by_cases he:R2=0
 .subst he;obtain rfl:b=true:=by rw[hb];rfl
  clear hb;go_enter func128,ntmps128;go_wp2_with fail;refine KL.o.mono ?_;rintro e w1 ⟨rfl,bf⟩;have O1:=xh (aB O0.o bf);clear bf;go_wp2_with fail;go_ret;exact aE O1.o
 .obtain rfl:b=false:=by rw[hb];simpa using he
  have kt:(R2==0)=false:=by rw[beq_eq_false_iff_ne];exact he
  clear hb;go_enter func128,ntmps128;go_wp2_with fail;refine KL.o.mono ?_;rintro e w1 ⟨rfl,bf⟩;have O1:=xh (aB O0.o bf);clear bf;go_wp2_with fail;go_ret;exact aE O1.o
open Nd (E aH bA aX bj dN bP bl cF)
attribute [local go_sem ↓] bz
variable{w:World}
structure Step where
 aq:Int
 leaf:Bool
 l:List E
 at_:Nat
structure SM where
 s:Step
 A:Option Addr
 c:Nat
def SM.v(x:SM):Value:= .slice x.A x.s.l.length x.c
def SM.cells(x:SM):List Value:=[.int .i64 x.s.aq,.bool x.s.leaf,x.v,.int .i64 (x.s.at_:Nat)]
structure aR(w:World)(b:Nat)(v:Value)(L:List SM):Prop where
 s:aT w 120 4 v L.length (L.flatMap SM.cells)
 f:∀g∈ai v,b<=g
 e:∀x∈L,aT w 111 3 x.v x.s.l.length (aH x.s.l)/\∀g∈ai x.v,b<=g
 d:L.Pairwise λx y=> ∀g∈ai x.v,g∉ai y.v
section
variable{w w':World}{b:Nat}{v:Value}{L:List SM}{S:List Nat}
theorem aR.only(h:aR w b v L)(o:ag S w w')(hs:∀g∈S,g<b):aR w' b v L:=
 ⟨h.s.only o (λg hg hm=>by have:=h.f g hg;have:=hs g hm;omega),h.f,λx hx=>⟨(h.e x hx).1.only o (λg hg hm=>by have:=(h.e x hx).2 g hg;have:=hs g hm;omega),(h.e x hx).2⟩,h.d⟩
theorem aR.below(h:aR w b v L)(hb:Below w.heap.size w w'):aR w' b v L:=h.only (S:=[]) (.aj hb) (by simp)
theorem aR.nil(w:World)(b:Nat):aR w b (.slice none 0 0) []:=⟨aT.nil _ _ _,by simp[ai],by simp,List.Pairwise.nil⟩
end
def N1:Value->Nat
 |.slice _ n _=>n
 |_=>0
def nU(key:ByteArray):Nat->QS->Int->List Step->QS×List Step×Int
 |0,q,_,_=>(q,[],14)
 |m+1,q,p,out=>
  if(q.bJ p).2.2.2≠0 then((q.bJ p).1,[],(q.bJ p).2.2.2)
  else if(q.bJ p).2.1=true then((q.bJ p).1,out++[⟨p,true,(q.bJ p).2.2.1,0⟩],0)
  else if(q.bJ p).2.2.1=[]then((q.bJ p).1,[],14)
  else nU key m (q.bJ p).1 ((q.bJ p).2.2.1.getD (bP (q.bJ p).2.2.1 key) Nd.E.zero).aW (out++[⟨p,false,(q.bJ p).2.2.1,bP (q.bJ p).2.2.1 key⟩])
def QS.eM(q:QS)(key:ByteArray):QS×List Step×Int:=nU key 16 q 0 []
theorem wy{l:List E}(h:l≠[])(key:ByteArray):bP l key<l.length:=by
 have hl:0<l.length:=tL.2 h;unfold bP;have hle:bl l key<=l.length:=oo
 split
 .rename_i hh;unfold cF at hh
  cases hx:l[bl l key]? with
  |none=>rw[hx]at hh;cases hh
  |some e=>exact(aS.1 hx).1
 .omega
theorem mh(q:QS)(p:Int):(q.bJ p).2.2.1.length<=57:=by
 unfold QS.bJ
 split
 .exact aY _
 .exact Nd.Iq _
theorem rp{e:Int}:yf e=0↔e=0:=by unfold yf;split<;>omega
theorem wB{q:QS}{p:Int}(h:(q.bJ p).2.2.2=0):dN (q.bJ p).2.2.1 (q.bJ p).2.1:=by
 unfold QS.bJ at h ⊢
 split at h
 .rename_i h2;exact absurd (rp.1 h) h2
 .rename_i h2;rw[if_neg h2];exact Nd.xH (rp.1 h)
theorem jD(w:World)(o:Obj):(w.alloc o).heap.size=w.heap.size+1:=by simp
theorem eV:∀L:List SM,(L.flatMap SM.cells).length=L.length*4
 |[]=>rfl
 |x::L=>by rw[gW,aU,eV L];simp[SM.cells];omega
theorem rq:∀{L:List SM} {k:Nat} {x:SM},L[k]?=some x->∀j,j<4->(L.flatMap SM.cells)[k*4+j]?=x.cells[j]?
 |[],_,_,h,_,_=>by simp at h
 |y::L,0,x,h,j,hj=>by
  simp only[yI,Option.some.injEq]at h;subst h;rw[gW,bF (by simp[SM.cells];omega),qS,bg]
 |y::L,k+1,x,h,j,hj=>by
  rw[vi]at h;rw[gW,dW (by simp[SM.cells];omega),show(k+1)*4+j-y.cells.length=k*4+j by simp[SM.cells];omega];exact rq h j hj
theorem QL:(prog.info? 120).map (λi=>(i.zero,i.size,i.bytes))=some (some (.agg #[.int .i64 0,.bool false,.slice none 0 0,.int .i64 0]),4,48):=by kernel_rfl
theorem Aw{v:Value}{m:Nat}{L:List Value}(S:aT w 120 4 v m L)(cs:List Value)(Jp:cs.length=4)(h1:∀u∈cs,u.oneCell'=true)(hm:m<=100):
  ∃v' w',dP prog 114 114 (w.alloc (.cells cs.toArray 120)) v (.slice (some ⟨w.heap.size,0,none⟩) 1 1)= .ok v' w'/\aT w' 120 4 v' (m+1) (L++cs)/\ag (ai v) w w'/\(∀g∈ai v',g∈ai v\/w.heap.size<=g):=by
 obtain⟨i0,hi,kx,ju,kg⟩:=info_parts QL;obtain⟨v',w',h1,h2,h3,h4⟩:=dk (P:=prog) (S.alloc (.cells cs.toArray 120)) 114 114 i0 _ 48 underlying114 hi kx ju kg rfl (by omega)
  ⟨w.heap.size,0,none⟩ 1 1 cs (by rw[Jp]) (bq (aJ.new w 120 cs.toArray) 0 _ (by simp)) h1 (by unfold maxLen;omega) (by omega)
 exact⟨v',w',h1,h2,((ag.refl _ _).alloc _).aO h3 (λx hx _=>hx),λg hg=>(h4 g hg).imp id (λh=>by simp at h;omega)⟩
theorem aR.push{w':World}{b:Nat}{v v':Value}{L:List SM}(h:aR w b v L)(x:SM)(S':aT w' 120 4 v' (L.length+1) (L.flatMap SM.cells++x.cells))(o:ag (ai v) w w')(f:∀g∈ai v',g∈ai v\/w.heap.size<=g)(hb:b<=w.heap.size)
 (hx:aT w 111 3 x.v x.s.l.length (aH x.s.l))(hf:∀g∈ai x.v,b<=g)(hn:∀y∈L,∀g∈ai y.v,g∉ai x.v):aR w' b v' (L++[x]):=by
 have pD:∀y:SM,aT w 111 3 y.v y.s.l.length (aH y.s.l)->aT w' 111 3 y.v y.s.l.length (aH y.s.l):=λy hy=>hy.only o (ig hy h.s (by decide));refine⟨by rw[aU,sr];simpa using S',λg hg=>(f g hg).elim (h.f g) (λh=>by omega),λy hy=>?_,?_⟩
 .rcases aC.1 hy with hy|hy
  .exact⟨pD y (h.e y hy).1,(h.e y hy).2⟩
  .rw[aQ.1 hy];exact⟨pD x hx,hf⟩
 .rw[dR];exact⟨h.d,Ee _ _,λy hy z hz=>by rw[aQ.1 hz];exact hn y hy⟩
theorem Ax{tb:Nat}{I:Ix}{F:List Nat}{q:QS}{n K:Nat}(h:TQ w tb I F q n K)(hK:K<=999999999900)(key:ByteArray):
  Calls prog 63 #[tp tb,.string key] w λe w'=> ∃v L,e=.returned (.tuple #[v,.int .i64 (q.eM key).2.2])/\aR w' w.heap.size v L/\L.map SM.s=(q.eM key).2.1/\PQ w' I F (q.eM key).1 n (K+16)/\ag F w w':=by
 have KR:=xh (λ(W:World) (qj:QS) (kj:Nat) (hW:TQ W tb I F qj n kj) (hk:kj<=999999999999) (p:Int)=>nS hW hk p);have HT:=xh h;have oO:=xh h.lt;have HNE:=xh h.ne;obtain⟨R,hR⟩:∃R,q.eM key=R:=⟨_,rfl⟩;rw[hR];unfold QS.eM at hR;have HR:=xh hR;clear h hR;unfold tp bA at *;go_enter func63,ntmps63;go_wp2_with fail
 go_step3
 go_wp2_with fail
 go_step3
 go_wp2_with fail
 go_loopw [6,7] (λov pv wr=> ∃(i:Nat) (L:List SM) (p:Int) (qi:QS),i<=16/\L.length=i/\pv=.int .i64 p/\aT wr 120 4 ov i (L.flatMap SM.cells)/\(∀x∈L,x.s.leaf=false)/\Hid (nU key (16-i) qi p (L.map SM.s)=R)/\Hid (aR wr w.heap.size ov L/\TQ wr tb I F qi n (K+i)/\ag F w wr)) (λov _ _=>16-N1 ov)
 case atStart=>exact⟨0,[],0,q,by omega,rfl,rfl,aT.nil _ _ _,by simp,HR,xh ⟨.nil _ _,HT.o,ag.refl _ _⟩⟩
 case round=>
  obtain⟨i,L,p,qi,hi,hl,rfl,S1,sJ,HW,HA⟩:=hrel;obtain⟨VA,vc,rfl⟩:=au S1
  by_cases h16:i<16
  .have h16I:(i:Int)<16:=by omega
   have K1:=xh (KR.o wr qi (K+i) HA.o.2.1 (by omega) p);have qu:=wB (q:=qi) (p:=p);have hlen:=mh qi p;have HW:=HW.o;rw[show 16-i=(16-(i+1))+1 by omega]at HW;unfold nU at HW;generalize qi.bJ p=r at *;obtain⟨q1,leaf,l,er⟩:=r;dsimp only at *;have HW:=xh HW;have Mi:=xh sJ;have HL:=xh hl;clear hl sJ S1;go_wp2_with fail;refine K1.o.mono ?_;rintro e w2 ⟨A,c,rfl,S2,f2,P2,o2⟩
   have H2:=xh (show aR w2 w.heap.size (.slice VA i vc) L/\TQ w2 tb I F q1 n (K+(i+1))/\ag F w w2/\aT w2 111 3 (.slice A l.length c) l.length (aH l)/\(∀g∈ai (.slice A l.length c),wr.heap.size<=g)/\wr.heap.size<=w2.heap.size from
    ⟨HA.o.1.only o2 (λg hg=>oO.o g (ax _ hg)),HA.o.2.1.next o2 P2,HA.o.2.2.trans o2,S2,f2,o2.size⟩)
   have HX:=xh (show ∀y∈L,∀g∈ai y.v,g∉ai (.slice A l.length c)from λy hy g hg hm=>by have h1:=f2 g hm;have h2:=((HA.o.1.e y hy).1).lt g hg;omega);clear S2 f2 P2 o2;have b3:=aJ.new w2 118 #[.bool leaf,.slice A l.length c];have gh:=ae (Below.refl w2.heap.size w2) (.cells #[.bool leaf,.slice A l.length c] 118)
   by_cases he:er=0
   .subst he;have HM:=xh (qu rfl);clear qu;have b4:=aJ.new (w2.alloc (.cells #[.bool leaf,.slice A l.length c] 118)) 120 #[.int .i64 p,.bool leaf,.slice A l.length c,.int .i64 0];have b34:=b3.alloc (.cells #[.int .i64 p,.bool leaf,.slice A l.length c,.int .i64 0] 120);rw[jD]at b4;have jw:=ae gh (.cells #[.int .i64 p,.bool leaf,.slice A l.length c,.int .i64 0] 120);have m0:=b3.ab (i:=0) rfl;have m1:=b3.ab (i:=1) rfl;have n0:=b34.ab (i:=0) rfl
    have n1:=b34.ab (i:=1) rfl;have k0:=b4.ab (i:=0) rfl;have k1:=b4.ab (i:=1) rfl;have k2:=b4.ab (i:=2) rfl;have k3:=b4.ab (i:=3) rfl;have H4:=xh (And.intro b34 (And.intro b4 jw))
    cases leaf
    .have HW:=HW.o;rw[if_neg (by simp),if_neg (by simp)]at HW
     by_cases h0:l=[]
     .rw[if_pos h0]at HW;subst HW;have h0l:l.length=0:=by rw[h0];rfl
      have H5:=xh (show PQ _ I F q1 n (K+(i+1))/\ag F w _ from⟨H2.o.2.1.2.below jw,H2.o.2.2.1.trans (.aj jw)⟩);rw[h0l]at H5;clear b3 b4 b34 gh jw h0;go_wp2_with fail;rw[Exit.noGoto_ret];go_ret2;exact⟨.slice none 0 0,[],by first|rfl|simp,.nil _ _,rfl,H5.o.1.le (by omega),H5.o.2⟩
     .rw[if_neg h0]at HW;have HW:=xh HW;have rS:=wy h0 key;have KB:=xh (Nd.Ar false A l.length c l key (Nd.aT.aH (H2.o.2.2.2.1.below jw)).2 (by omega) HM.o);unfold bA at KB;obtain⟨ex,hex⟩:∃ex,l[bP l key]?=some ex:=⟨_,aL rS⟩;have hfar:(l.getD (bP l key) Nd.E.zero).aW=ex.aW:=by rw[gH,hex];rfl
      have HFAR:=xh hfar;have Gm:=xh rS;generalize bP l key=at_ at *;have GK:¬l.length=0:=by omega
      have QM:((l.length:Nat):Int)≠0:=by omega
      go_wp2_with fail;refine KB.o.mono ?_;rintro e w5 ⟨rfl,nC⟩;have N5:=xh (H4.o.1.below nC H4.o.1.lt);have B5:=xh (H4.o.2.1.below nC H4.o.2.1.lt);have O5:=xh (aB H4.o.2.2 nC);have v3:=B5.o.ab (i:=3) rfl;have z3:=B5.o.frozen 3 (by simp);have B6:=xh (B5.o.bE 3 (.int .i64 (at_:Nat)));have N6:=xh (N5.o.aW (p:=⟨w2.heap.size+1,3,none⟩) (by show w2.heap.size≠w2.heap.size+1;omega) (.int .i64 (at_:Nat)))
      have O6:=xh (show Below w2.heap.size w2 (w5.setCell ⟨w2.heap.size+1,3,none⟩ (.int .i64 (at_:Nat)))from((ag.aj (S:=[w2.heap.size+1]) O5.o).trans ((ag.refl _ _).setCell (by simp) _)).aI (ak _) (λx hx=>by simp at hx;omega));have SA:=H2.o.1.below O6.o;have hvlt:∀g∈ai (.slice VA i vc),g<w2.heap.size:=H2.o.1.s.lt
      obtain⟨v',w7,ea,S7,oa,fa⟩:=Aw SA.s [.int .i64 p,.bool false,.slice A l.length c,.int .i64 (at_:Nat)] rfl (by simp;exact⟨rfl,rfl,rfl,rfl⟩) (by rw[HL.o];omega);rw[HL.o]at S7;have H7:=xh (show aR w7 w.heap.size v' (L++[⟨⟨p,false,l,at_⟩,A,c⟩])/\TQ w7 tb I F q1 n (K+(i+1))/\ag F w w7 from
       ⟨SA.push ⟨⟨p,false,l,at_⟩,A,c⟩ (by rw[HL.o];exact S7) oa (λg hg=>(fa g hg).imp id (λh=>h)) (by have:=H2.o.2.2.1.size;have:=O6.o.size;omega) (H2.o.2.2.2.1.below O6.o) (λg hg=>ar HA.o.2.2.size (H2.o.2.2.2.2.1 g hg)) HX.o,
        (H2.o.2.1.below O6.o).only oa (λg hF hg=>by have:=SA.f g hg;have:=oO.o g hF;omega),
        (H2.o.2.2.1.trans (.aj O6.o)).aO oa (λg hg dH=>by have:=SA.f g hg;omega)⟩)
      have u1:=B6.o.ab (i:=0) rfl;have u2:=B6.o.ab (i:=1) rfl;have u3:=B6.o.ab (i:=2) rfl;have u4':=B6.o.ab (i:=3) rfl;have y1:=(N6.o.only oa (λhg=>by have:=hvlt _ hg;omega)).ab (i:=1) rfl;have y3:=(B6.o.only oa (λhg=>by have:=hvlt _ hg;omega)).ab (i:=3) rfl;obtain⟨ga,ca,xI,Bv,BA,_,_⟩:=(H2.o.2.2.2.1.below O6.o).form (by omega) (by omega);have SE:=(Nd.aT.aH (H7.o.1.e ⟨⟨p,false,l,at_⟩,A,c⟩ (by simp)).1).2
      obtain⟨ad,wC,fT⟩:=SE.2 at_ ex hex;injection Bv with e1 e2 e3
      subst e1 e3;injection wC with wC
      subst wC;rw[Nd.fe,bg]at fT;have xf:=fT.c2;dsimp only at xf;rw[show(w5.setCell ⟨w2.heap.size+1,3,none⟩ (.int .i64 (at_:Nat))).heap.size=w5.heap.size from by simp]at ea;have EA:=xh ea;obtain⟨g7,c7,rest7,rfl,B7,hc7,hr7⟩:=S7.form (by omega) (by omega);have S7:=xh (show aT w7 120 4 (.slice (some ⟨g7,0,none⟩) (i+1) c7) (i+1) ((L++[(⟨⟨p,false,l,at_⟩,some ⟨ga,0,none⟩,c⟩:SM)]).flatMap SM.cells)from by rw[sr];simpa [SM.cells,SM.v]using S7)
      have hatI:(at_:Int)<(l.length:Int):=by have:=Gm.o;omega
      clear ea oa fa SA BA SE fT B7 hr7 b3 b4 b34 gh jw nC hex;go_wp2_with fail;rw[EA.o];go_wp2_with fail;have HW:=HW.o;rw[HFAR.o]at HW;go_roundw
      case rel=>exact⟨i+1,L++[⟨⟨p,false,l,at_⟩,some ⟨ga,0,none⟩,c⟩],ex.aW,q1,by omega,by rw[aU,HL.o];rfl,rfl,S7.o,λx hx=>(aC.1 hx).elim (Mi.o x) (λh=>by rw[aQ.1 h]),xh (by rw[dA];exact HW),H7⟩
      case measure=>simp[N1];omega
    .have HW:=HW.o;rw[if_neg (by simp),if_pos rfl]at HW;subst HW;have SA:=H2.o.1.below jw;obtain⟨v',w5,ea,S5,oa,fa⟩:=Aw SA.s [.int .i64 p,.bool true,.slice A l.length c,.int .i64 0] rfl (by simp;exact⟨rfl,rfl,rfl,rfl⟩) (by rw[HL.o];omega);rw[HL.o]at S5;rw[jD,jD]at ea;have H5:=xh (show aR w5 w.heap.size v' (L++[⟨⟨p,true,l,0⟩,A,c⟩])/\PQ w5 I F q1 n (K+(i+1))/\ag F w w5 from
      ⟨SA.push ⟨⟨p,true,l,0⟩,A,c⟩ (by rw[HL.o];exact S5) oa (λg hg=>(fa g hg).imp id (λh=>h)) (by have:=H2.o.2.2.1.size;have:=jw.size;omega) (H2.o.2.2.2.1.below jw) (λg hg=>ar HA.o.2.2.size (H2.o.2.2.2.2.1 g hg)) HX.o,
       (H2.o.2.1.2.below jw).only oa (λg hF hg=>by have:=SA.f g hg;have:=oO.o g (ax _ hF);omega),
       (H2.o.2.2.1.trans (.aj jw)).aO oa (λg hg dH=>by have:=SA.f g hg;omega)⟩)
     obtain⟨g5,c5,rest5,rfl,B5,hc5,hr5⟩:=S5.form (by omega) (by omega);have x5:w5.cell? ⟨g5,i*4+1,none⟩=some (.bool true):=B5.ab (by
      rw[dj,cr,dW (by rw[eV,HL.o];omega),eV,HL.o,show i*4+1-i*4=1 by omega];rfl)
     have EA:=xh ea;have w1':IntKind.i64.wrap (((i+1:Nat):Int)-1)=(i:Int):=by rw[show((i+1:Nat):Int)-1=(i:Int) by omega];exact IntWalk.i64_in _ (by omega)
     have w2':(i:Int)<((i+1:Nat):Int):=by omega
     clear ea S5 oa fa B5 SA b3 b4 b34 gh jw hr5;go_wp2_with fail;rw[EA.o];go_wp2_with fail;rw[Exit.noGoto_ret];go_ret2;exact⟨_,_,by first|rfl|simp,H5.o.1,by rw[dA];rfl,H5.o.2.1.le (by omega),H5.o.2.2⟩
   .have hq:(er != 0)=true:=by rw[bne_iff_ne];exact he
    have kt:(er==0)=false:=by rw[beq_eq_false_iff_ne];exact he
    have HW:=HW.o;rw[if_pos he]at HW;subst HW;have H3:=xh (show PQ (w2.alloc (.cells #[.bool leaf,.slice A l.length c] 118)) I F q1 n (K+(i+1))/\ag F w (w2.alloc (.cells #[.bool leaf,.slice A l.length c] 118))from⟨H2.o.2.1.2.below gh,H2.o.2.2.1.trans (.aj gh)⟩);clear b3 gh qu;go_wp2_with fail;rw[Exit.noGoto_ret];go_ret2;exact⟨.slice none 0 0,[],by first|rfl|simp,.nil _ _,rfl,H3.o.1.le (by omega),H3.o.2⟩
  .obtain rfl:i=16:=by omega
   have HW:=HW.o;rw[show 16-16=0 by omega]at HW;unfold nU at HW;subst HW;obtain⟨g5,c5,rest5,hv,B5,hc5,hr5⟩:=S1.form (by omega) (by omega);injection hv with e1 e2 e3
   subst e1 e3;obtain⟨x,hx⟩:∃x,L[15]?=some x:=⟨_,aL (by omega)⟩;have Gs:=sJ x (ay hx);have x5:wr.cell? ⟨g5,61,none⟩=some (.bool false):=B5.ab (by
    rw[dj,bF (by rw[eV,hl];omega),show 61=15*4+1 from rfl,rq hx 1 (by omega),<-Gs];rfl)
   clear B5 hr5 S1 sJ hl hx Gs;go_wp2_with fail;go_ret2;exact⟨.slice none 0 0,by first|rfl|simp,[],.nil _ _,rfl,HA.o.2.1.2,HA.o.2.2⟩
end Sh
namespace Sh
open Go.RowKit Pk Dk Pg
open Nd (E aH bA aX bj dN bP bl cF)
attribute [local go_sem ↓] Go.wp_at_zero Go.wp_at_succ
variable{key:ByteArray}{w:World}{tb n K:Nat}{I:Ix}{F:List Nat}
def QS.fL(q:QS)(x:E):QS×ByteArray×Int:=if x.aW<0 then(q,x.val,0)else((q.eQ x.aW).1,⟨(q.eQ x.aW).2.2.1.toArray⟩,yf (q.eQ x.aW).2.2.2)
def QS.qv(q:QS)(x:E):QS×Int:=if x.aW<0 then(q,0)else((q.qe x.aW).1,yf (q.qe x.aW).2)
def QS.jq(q:QS)(key value:ByteArray):QS×E×Int:=if value.size<=40 then(q,⟨key,value,-1⟩,0)else((q.qf value.data.toList).1,⟨key,⟨#[]⟩,(q.qf value.data.toList).2.1⟩,(q.qf value.data.toList).2.2)
def wD(s:Step):Prop:=dN s.l s.leaf/\s.l.length<=57/\(s.leaf=false->s.at_<s.l.length)
theorem Iy(key:ByteArray):∀(m:Nat) (q:QS) (p:Int) (out:List Step),(nU key m q p out).2.2=0->∃pre x,(nU key m q p out).2.1=out++(pre++[x])/\x.leaf=true/\(∀s∈pre,s.leaf=false)/\(∀s∈pre++[x],wD s)/\pre.length<m
 |0,_,_,_,h=>absurd h (by show(14:Int)≠0;decide)
 |m+1,q,p,out,h=>by
  have hl:=mh q p;unfold nU at h ⊢
  split at h
  .rename_i h1;exact absurd h h1
  .rename_i h1;have hm:=wB (q:=q) (p:=p) (by simpa using h1);rw[if_neg h1]
   split at h
   .rename_i h2;rw[if_pos h2];refine⟨[],⟨p,true,(q.bJ p).2.2.1,0⟩,rfl,rfl,by simp,λs hs=>?_,by simp⟩;simp at hs;subst hs;rw[h2]at hm;exact⟨hm,hl,λh=>by cases h⟩
   .rename_i h2;rw[if_neg h2]
    split at h
    .exact absurd h (by show(14:Int)≠0;decide)
    .rename_i h3;rw[if_neg h3];obtain⟨pre,x,e1,e2,e3,e4,e5⟩:=Iy key m _ _ _ h;have h2:(q.bJ p).2.1=false:=by simpa using h2
     refine⟨⟨p,false,(q.bJ p).2.2.1,bP (q.bJ p).2.2.1 key⟩::pre,x,?_,e2,λs hs=>?_,λs hs=>?_,by simp;omega⟩
     .rw[e1];simp
     .rcases an.1 hs with rfl|hs
      .rfl
      .exact e3 s hs
     .rcases an.1 hs with rfl|hs
      .rw[h2]at hm;exact⟨hm,hl,λ_=>wy h3 key⟩
      .exact e4 s hs
theorem Mr{q:QS}(h:(q.eM key).2.2=0):∃pre x,(q.eM key).2.1=pre++[x]/\x.leaf=true/\(∀s∈pre,s.leaf=false)/\(∀s∈pre++[x],wD s)/\pre.length<16:=by
 obtain⟨pre,x,e1,e2⟩:=Iy key 16 q 0 [] h;exact⟨pre,x,e1,e2⟩
theorem TQ.drew{q:QS}(h:TQ w tb I F q n K):TQ w.drew tb I F q n K:=⟨h.1.drew,h.2.drew⟩
theorem sR{q:QS}(h:TQ w tb I F q n K)(hK:K<=999999999900)(x:E):
  Calls prog 62 #[tp tb,x.agg] w λe w'=>e=.returned (.tuple #[.string (q.fL x).2.1,.int .i64 (q.fL x).2.2])/\PQ w' I F (q.fL x).1 n (K+5)/\ag F w w':=by
 have O0:=xh (ae (Below.refl w.heap.size w) (.cells #[.string x.key,.string x.val,.int .i64 x.aW] 111));have B0:=xh (aJ.new w 111 #[.string x.key,.string x.val,.int .i64 x.aW]);have T0:=xh (h.below O0.o);have x1:=B0.o.ab (i:=1) rfl;have x2:=B0.o.ab (i:=2) rfl;have p0:=T0.o.1.ab (i:=0) rfl;have S0:=xh (And.intro p0 x2);have NB:=xh (show w.heap.size∉F from λhm=>by have:=h.2.lt _ hm;omega)
 have KW:=xh (λ(W:World) (hW:TQ W tb I F q n K)=>Ux hW.2 hK x.aW);have KB:=xh Au;unfold QS.fL;generalize q.eQ x.aW=R at *;obtain⟨q1,l1,b1,e1⟩:=R;dsimp only at *;clear h;unfold tp E.agg at *;unfold pp at KW p0 S0
 by_cases hf:x.aW<0
 .rw[if_pos hf];go_enter func62,ntmps62;go_wp2_with fail;go_ret2;exact aE ⟨T0.o.2.le (by omega),.aj O0.o⟩
 .rw[if_neg hf];go_enter func62,ntmps62;go_wp2_with fail;clear p0 x1 x2;refine wp_region_held_drew (S:=λW=>W.cell? ⟨tb,0,none⟩=some (.pointer (some ⟨I.pb,0,none⟩))/\W.cell? ⟨w.heap.size,2,none⟩=some (.int .i64 x.aW)) (by kernel_rfl) (S0.o) (λah=>?_);refine bM [(0,14),(1,15),(2,16),(3,17),(4,18),(5,19)] ?_
  iterate 6 refine aG ?_
  refine bY 6 20 λK hK=>?_;go_simp
  go_at_call 111
  refine(KW.o _ (T0.o.drew)).mono ?_;rintro e w2 ⟨rfl,P2,o2⟩;have P2:=xh P2;have O2:=xh ((ag.aj O0.o).drew.trans o2);have S2:=xh (And.intro ((T0.o.drew.next o2 P2.o).1.ab (i:=0) rfl) ((B0.o.drew.only o2 NB.o).ab (i:=2) rfl));clear o2;go_simp;refine aA hK (S2.o) (λah=>?_);refine bM [(7,13),(8,21),(9,22),(10,6),(11,7)] ?_
  iterate 5 refine aG ?_
  refine wpAnyH_done (by kernel_rfl) ?_ _;go_wp2_with fail;refine(KB.o _ _).mono ?_;rintro e w3 ⟨rfl,rfl⟩;go_wp2_with fail;go_ret2;exact aE ⟨P2.o,O2.o⟩
theorem Dq{q:QS}(h:TQ w tb I F q n K)(hK:K<=999999999900)(x:E):
  Calls prog 71 #[tp tb,x.agg] w λe w'=>e=.returned (.int .i64 (q.qv x).2)/\PQ w' I F (q.qv x).1 n (K+5)/\ag F w w':=by
 have O0:=xh (ae (Below.refl w.heap.size w) (.cells #[.string x.key,.string x.val,.int .i64 x.aW] 111));have B0:=xh (aJ.new w 111 #[.string x.key,.string x.val,.int .i64 x.aW]);have T0:=xh (h.below O0.o);have x1:=B0.o.ab (i:=1) rfl;have x2:=B0.o.ab (i:=2) rfl;have p0:=T0.o.1.ab (i:=0) rfl;have S0:=xh (And.intro p0 x2);have NB:=xh (show w.heap.size∉F from λhm=>by have:=h.2.lt _ hm;omega)
 have KW:=xh (λ(W:World) (hW:TQ W tb I F q n K)=>Qt hW.2 hK x.aW);have KB:=xh Au;unfold QS.qv;generalize q.qe x.aW=R at *;obtain⟨q1,e1⟩:=R;dsimp only at *;clear h;unfold tp E.agg at *;unfold pp at KW p0 S0
 by_cases hf:x.aW<0
 .rw[if_pos hf];go_enter func71,ntmps71;go_wp2_with fail;go_ret;exact aE ⟨T0.o.2.le (by omega),.aj O0.o⟩
 .rw[if_neg hf];go_enter func71,ntmps71;go_wp2_with fail;clear p0 x1 x2;refine wp_region_held_drew (S:=λW=>W.cell? ⟨tb,0,none⟩=some (.pointer (some ⟨I.pb,0,none⟩))/\W.cell? ⟨w.heap.size,2,none⟩=some (.int .i64 x.aW)) (by kernel_rfl) (S0.o) (λah=>?_);refine bM [(0,8),(1,9),(2,10),(3,11),(4,12),(5,13)] ?_
  iterate 6 refine aG ?_
  refine bY 6 14 λK hK=>?_;go_simp
  go_at_call 123
  refine(KW.o _ (T0.o.drew)).mono ?_;rintro e w2 ⟨rfl,P2,o2⟩;have P2:=xh P2;have O2:=xh ((ag.aj O0.o).drew.trans o2);have S2:=xh (And.intro ((T0.o.drew.next o2 P2.o).1.ab (i:=0) rfl) ((B0.o.drew.only o2 NB.o).ab (i:=2) rfl));clear o2;go_simp;refine aA hK (S2.o) (λah=>?_);refine bY 7 15 λK hK=>?_;go_simp
  go_at_call 112
  refine(KB.o _ _).mono ?_;rintro e w3 ⟨rfl,rfl⟩;go_simp;refine aA hK (S2.o) (λah=>?_);refine bM [(8,4)] ?_
  iterate 1 refine aG ?_
  refine wpAnyH_done (by kernel_rfl) ?_ _;go_wp2_with fail;go_ret;exact aE ⟨P2.o,O2.o⟩
theorem Vg{g:Nat}{a b a' b':ByteArray}{c c':Int}(B:aJ w g 111 #[.string a,.string b,.int .i64 c]):
  aJ (((w.setCell ⟨g,0,none⟩ (.string a')).setCell ⟨g,1,none⟩ (.string b')).setCell ⟨g,2,none⟩ (.int .i64 c')) g 111 #[.string a',.string b',.int .i64 c']/\ag [g] w (((w.setCell ⟨g,0,none⟩ (.string a')).setCell ⟨g,1,none⟩ (.string b')).setCell ⟨g,2,none⟩ (.int .i64 c'))/\
   w.cell? ⟨g,0,none⟩=some (.string a)/\w.cell? ⟨g,1,none⟩=some (.string b)/\w.cell? ⟨g,2,none⟩=some (.int .i64 c)/\w.frozen? ⟨g,0,none⟩=false/\w.frozen? ⟨g,1,none⟩=false/\w.frozen? ⟨g,2,none⟩=false:=
 ⟨((B.bE 0 _).bE 1 _).bE 2 _,(((ag.refl _ _).setCell (by simp) _).setCell (by simp) _).setCell (by simp) _,B.ab rfl,B.ab rfl,B.ab rfl,B.frozen 0 (by simp),B.frozen 1 (by simp),B.frozen 2 (by simp)⟩
theorem Dr{q:QS}(h:TQ w tb I F q n K)(hK:K<=999999999900)(key value:ByteArray)(hv:value.size<=1024):
  Calls prog 73 #[tp tb,.string key,.string value] w λe w'=>e=.returned (.tuple #[(q.jq key value).2.1.agg,.int .i64 (q.jq key value).2.2])/\PT w w' I F (q.jq key value).1 n (K+5):=by
 have O0:=xh (ae (Below.refl w.heap.size w) (.cells #[.string ⟨#[]⟩,.string ⟨#[]⟩,.int .i64 0] 111));have B0:=xh (aJ.new w 111 #[.string ⟨#[]⟩,.string ⟨#[]⟩,.int .i64 0]);have T0:=xh (h.below O0.o);have p0:=T0.o.1.ab (i:=0) rfl;have NB:=xh (show w.heap.size∉F from λhm=>by have:=h.2.lt _ hm;omega);have KW:=xh (Uz T0.o.2 value hv hK);have HH:=xh h;unfold QS.jq;generalize q.qf value.data.toList=R at *;obtain⟨q1,l1,e1⟩:=R
 dsimp only at *;clear h;unfold tp E.agg at *;unfold pp at KW p0
 by_cases hs:value.size<=40
 .rw[if_pos hs];have hsI:(value.size:Int)<=40:=by omega
  have B2:=xh (aJ.new w 111 #[.string key,.string value,.int .i64 (-1)]);have o2:=xh (ae (Below.refl w.heap.size w) (.cells #[.string key,.string value,.int .i64 (-1)] 111));go_enter func73,ntmps73;go_wp2_with fail;exact bodyPost_ret (Nd.nQ rfl rfl B2.o) rfl ⟨rfl,.self ((HH.o.2.below o2.o).le (by omega)) (.aj o2.o)⟩
 .rw[if_neg hs];have hsI:¬(value.size:Int)<=40:=by omega
  go_enter func73,ntmps73;go_wp2_with fail;refine KW.o.mono ?_;rintro e w1 ⟨rfl,F1,P1,o1,f1⟩;have H1:=xh (And.intro P1 (And.intro o1 f1));have NB1:=xh (show w.heap.size∉F1 from λhm=>(f1 _ hm).elim NB.o (λh=>by simp at h;omega));obtain⟨B2,o2,c0,c1,c2,z0,z1,z2⟩:=Vg (a':=key) (b':=⟨#[]⟩) (c':=l1) (B0.o.only o1 NB.o);have B2:=xh B2;have o2:=xh o2;clear P1 o1 f1 p0;go_wp2_with fail
  exact bodyPost_ret (Nd.nQ rfl rfl B2.o) rfl ⟨rfl,F1,H1.o.1.aW o2.o NB1.o,l8 (((ag.aj (S:=w.heap.size::F) O0.o).trans (l9 H1.o.2.1)).trans (ma o2.o)) (ak _),λg hg=>(H1.o.2.2 g hg).imp id (λh=>by simp at h;omega)⟩
theorem aR.last{b:Nat}{v:Value}{L:List SM}(h:aR w b v L){pre:List Step}{x:Step}(e:L.map SM.s=pre++[x]):∃Lp A c g cc,L=Lp++[⟨x,A,c⟩]/\Lp.map SM.s=pre/\v=.slice (some ⟨g,0,none⟩) (pre.length+1) cc/\b<=g/\pre.length+1<=cc/\cc<=maxLen/\
  (∀j,j<4->w.cell? ⟨g,pre.length*4+j,none⟩=(SM.cells ⟨x,A,c⟩)[j]?)/\(∀j,j<4->w.frozen? ⟨g,pre.length*4+j,none⟩=false)/\aT w 111 3 (.slice A x.l.length c) x.l.length (aH x.l)/\(∀g∈ai (.slice A x.l.length c),b<=g):=by
 obtain⟨Lp,y,rfl⟩:∃Lp y,L=Lp++[y]:=by
  rcases sk L with h0|⟨Lp,y,h0⟩
  .rw[h0]at e;simp at e
  .exact⟨Lp,y,by simpa using h0⟩
 rw[dA,fN,qI]at e;obtain⟨e1,e2⟩:=JB e rfl;simp only[List.cons.injEq,and_true]at e2;obtain⟨s,A,c⟩:=y;dsimp only at e2;subst e2;have hlen:Lp.length=pre.length:=by rw[<-e1,fo]
 have hS:=h.s;rw[aU,fI,iq,hlen,bg]at hS;obtain⟨g,cc,rest,rfl,B,hc,hr⟩:=hS.form (by omega) (by omega);have hm:cc<=maxLen:=by obtain⟨_,_,_,_,h⟩:=hS.tx;exact h
 have hx:=h.e ⟨s,A,c⟩ (by simp);have pF:((Lp++[(⟨s,A,c⟩:SM)]).flatMap SM.cells).length=pre.length*4+4:=by rw[eV,aU];simp;omega
 refine⟨Lp,A,c,g,cc,rfl,e1,rfl,h.f g (by simp[ai]),hc,hm,λj hj=>?_,λj hj=>B.frozen _ (by simp;rw[<-List.length_flatMap]at *;simp[eV]at *;omega),hx.1,hx.2⟩;rw[B.cell,dj,bF (by rw[pF];omega)];exact rq (by rw[<-hlen,dW (ak _),fy];rfl) j hj
theorem Ay{l:List E}(h:cF l key=true):∃e,l[bl l key]?=some e:=by
 unfold cF at h
 cases hx:l[bl l key]? with
 |none=>rw[hx]at h;cases h
 |some e=>exact⟨e,rfl⟩
def iX(l:List Step):Step:=l.getLastD ⟨0,false,[],0⟩
def QS.nz(q:QS)(key:ByteArray):QS×ByteArray×Int:=
 if(q.eM key).2.2≠0 then((q.eM key).1,⟨#[]⟩,(q.eM key).2.2)
 else if cF (iX (q.eM key).2.1).l key=true then(q.eM key).1.fL ((iX (q.eM key).2.1).l.getD (bl (iX (q.eM key).2.1).l key) Nd.E.zero)
 else((q.eM key).1,⟨#[]⟩,9)
theorem Ds{q:QS}(h:TQ w tb I F q n K)(hK:K<=999999999000)(key:ByteArray):
  Calls prog 20 #[tp tb,.string key] w λe w'=>e=.returned (.tuple #[.string (q.nz key).2.1,.int .i64 (q.nz key).2.2])/\PQ w' I F (q.nz key).1 n (K+21)/\ag F w w':=by
 have KW:=xh (Ax h (by omega) key);have HT:=xh h;have KV:=xh (λ(W:World) (qj:QS) (hW:TQ W tb I F qj n (K+16)) (x:E)=>sR hW (by omega) x);have fu:=Mr (q:=q) (key:=key);unfold QS.nz;generalize q.eM key=R at *;obtain⟨q1,steps,er⟩:=R;dsimp only at *;clear h;unfold tp at *
 by_cases he:er=0
 .subst he;obtain⟨pre,x,rfl,sJ,hnl,ny,hlen⟩:=fu rfl;rw[if_neg (by simp),show iX (pre++[x])=x from by unfold iX;simp];obtain⟨hm,hl57,_⟩:=ny x (by simp);have hm:=xh hm;clear fu hnl ny sJ;obtain⟨RR,bG⟩:∃RR,(if cF x.l key=true then q1.fL (x.l.getD (bl x.l key) Nd.E.zero)else(q1,⟨#[]⟩,9))=RR:=⟨_,rfl⟩;rw[bG];have eY:=xh bG;clear bG;go_enter func20,ntmps20;go_wp2_with fail;refine KW.o.mono ?_;rintro e w1 ⟨v,L,rfl,SA,nV,P1,o1⟩
  obtain⟨Lp,A,c,g,cc,rfl,lQ,rfl,hbg,Gl,tC,ic,Rv,S1,f1⟩:=SA.last nV;have T1:=xh (HT.o.next o1 P1);have o1:=xh o1;have S1:=xh S1;have x1:w1.cell? ⟨g,pre.length*4+1,none⟩=some (.bool x.leaf):=ic 1 (by omega);have x2:w1.cell? ⟨g,pre.length*4+1+1,none⟩=some (.slice A x.l.length c):=ic 2 (by omega);have s1:IntKind.i64.wrap (((pre.length+1:Nat):Int)-1)=(pre.length:Int):=by rw[show((pre.length+1:Nat):Int)-1=(pre.length:Int) by omega];exact IntWalk.i64_in _ (by omega)
  have s2:(pre.length:Int)<((pre.length+1:Nat):Int):=by omega
  have gV:=ae (Below.refl w1.heap.size w1) (.cells #[.bool x.leaf,.slice A x.l.length c] 118);have B2:=xh (aJ.new w1 118 #[.bool x.leaf,.slice A x.l.length c]);have y0:=B2.o.ab (i:=0) rfl;have y1:=B2.o.ab (i:=1) rfl;have S2:=xh (S1.o.below gV);have KF:=xh (Nd.wo x.leaf A x.l.length c x.l key (Nd.aT.aH S2.o).2 (by omega) hm.o);have HAL:=xh gV;unfold bA at KF;clear SA nV P1 lQ ic Rv f1 gV;go_wp2_with fail
  refine KF.o.mono ?_;rintro e w3 ⟨rfl,gh⟩;have O3:=xh (aB HAL.o gh);have T3:=xh (T1.o.below O3.o);have z1:=(B2.o.below gh B2.o.lt).ab (i:=1) rfl;have S3:=xh (S2.o.below gh);clear x1 x2 y0 y1 gh
  by_cases hh:cF x.l key=true
  .obtain⟨ex,hex⟩:=Ay hh;have hfx:x.l.getD (bl x.l key) Nd.E.zero=ex:=by rw[gH,hex];rfl
   have bG:=eY.o;rw[if_pos hh,hfx]at bG;subst bG;generalize cF x.l key=hb at *;subst hh;have qb:bl x.l key<x.l.length:=(aS.1 hex).1;generalize bl x.l key=at_ at *;obtain⟨ad,wC,fT⟩:=(Nd.aT.aH S3.o).2.2 at_ ex hex;obtain⟨ga,ca,xI,Bv,_⟩:=S3.o.form (by omega) (by omega);injection Bv with e1 e2 e3
   subst e1 e3;injection wC with wC
   subst wC;rw[Nd.fe,bg]at fT;have u0:=fT.c0;have u1:=fT.c1;have u2:=fT.c2;dsimp only at u1 u2;have K3:=xh (KV.o w3 q1 T3.o ex);unfold E.agg at K3;have hflI:(at_:Int)<(x.l.length:Int):=by omega
   clear fT hex hfx;go_wp2_with fail;refine K3.o.mono ?_;rintro e w4 ⟨rfl,P4,o4⟩;have P4:=xh P4;have O4:=xh ((o1.o.trans (.aj O3.o)).trans o4);clear o4 u0 u1 u2 z1;go_wp2_with fail;go_ret2;exact aE ⟨P4.o,O4.o⟩
  .have hh2:cF x.l key=false:=by simpa using hh
   have bG:=eY.o;rw[if_neg hh]at bG;subst bG;generalize cF x.l key=hb at *;subst hh2;clear hh;go_wp2_with fail;go_ret2;exact aE ⟨T3.o.2.le (by omega),o1.o.trans (.aj O3.o)⟩
 .rw[if_pos he];have hq:(er != 0)=true:=by rw[bne_iff_ne];exact he
  have kt:(er==0)=false:=by rw[beq_eq_false_iff_ne];exact he
  clear fu;go_enter func20,ntmps20;go_wp2_with fail;refine KW.o.mono ?_;rintro e w1 ⟨v,L,rfl,SA,nV,P1,o1⟩;have P1:=xh P1;have o1:=xh o1;clear SA nV;go_wp2_with fail;go_ret2;exact aE ⟨P1.o.le (by omega),o1.o⟩
open Nd (E aH bA aX bj dN bP bl cF bU)
variable{w w':World}{I:Ix}{F:List Nat}{n K K0 tb:Nat}
def keyOf(l:List E):ByteArray:=(l.headD Nd.E.zero).key
def QS.Az(q:QS)(leaf:Bool)(la lb:List E):QS×Int:=
 if(q.eB leaf la).2.2≠0 then((q.eB leaf la).1,(q.eB leaf la).2.2)
 else if((q.eB leaf la).1.eB leaf lb).2.2≠0 then(((q.eB leaf la).1.eB leaf lb).1,((q.eB leaf la).1.eB leaf lb).2.2)
 else((q.eB leaf la).1.eB leaf lb).1.db 0 false [⟨⟨#[]⟩,⟨#[]⟩,(q.eB leaf la).2.1⟩,⟨keyOf lb,⟨#[]⟩,((q.eB leaf la).1.eB leaf lb).2.1⟩]
theorem PT.Pc{q q0:QS}{A:Option Addr}{m c:Nat}{l:List E}(h:PT w w' I F q n K)(P:PQ w I F q0 n K0)(S:aT w 111 3 (.slice A m c) m (aH l)):aT w' 111 3 (.slice A m c) m (aH l):=by
 obtain⟨F',_,o,_⟩:=h;exact S.only o (λg hg=>by
  obtain⟨cs,B⟩:=yB S g hg;exact P.iV B)
theorem PT.tq{q q0:QS}(T:TQ w tb I F q0 n K0)(h:PT w w' I F q n K):∃F',TQ w' tb I F' q n K/\ag F w w'/\∀g∈F',g∈F\/w.heap.size<=g:=by
 obtain⟨F',P,o,f⟩:=h;exact⟨F',⟨T.1.only o T.ne,P⟩,o,f⟩
theorem QN{q:QS}(h:TQ w tb I F q n K)(hK:K<=999999999900)(leaf:Bool)(A1:Option Addr)(m1 c1:Nat)(la:List E)(S1:aT w 111 3 (.slice A1 m1 c1) m1 (aH la))(A2:Option Addr)(m2 c2:Nat)(lb:List E)(S2:aT w 111 3 (.slice A2 m2 c2) m2 (aH lb))(hm1:m1<=1000)(Kc:m2<=1000)(h0:0<m2):
  Calls prog 130 #[tp tb,bA leaf A1 m1 c1,bA leaf A2 m2 c2] w λe w'=>e=.returned (.int .i64 (q.Az leaf la lb).2)/\PT w w' I F (q.Az leaf la lb).1 n (K+3):=by
 have NN:=ae (ae (Below.refl w.heap.size w) (.cells #[.bool leaf,.slice A1 m1 c1] 118)) (.cells #[.bool leaf,.slice A2 m2 c2] 118);have O0:=xh NN;have B1:=xh ((aJ.new w 118 #[.bool leaf,.slice A1 m1 c1]).alloc (.cells #[.bool leaf,.slice A2 m2 c2] 118));have B2:=aJ.new (w.alloc (.cells #[.bool leaf,.slice A1 m1 c1] 118)) 118 #[.bool leaf,.slice A2 m2 c2];rw[jD]at B2;have B2:=xh B2
 have H0:=xh (And.intro (h.below NN) (And.intro (S1.below NN) (S2.below NN)));have x0:=B1.o.ab (i:=0) rfl;have x1:=B1.o.ab (i:=1) rfl;have KM1:=xh (wv H0.o.1 (by omega) leaf A1 m1 c1 la H0.o.2.1 hm1);have KM2:=xh (λ(W:World) (F':List Nat) (qj:QS) (hW:TQ W tb I F' qj n (K+1)) (S:aT W 111 3 (.slice A2 m2 c2) m2 (aH lb))=>wv hW (by omega) leaf A2 m2 c2 lb S Kc)
 have KW:=xh (λ(W:World) (F':List Nat) (qj:QS) (hW:TQ W tb I F' qj n (K+2)) (g:Nat) (l:List E) (S:aT W 111 3 (.slice (some ⟨g,0,none⟩) 2 2) 2 (aH l))=>oY hW (by omega) 0 false (some ⟨g,0,none⟩) 2 2 l S (by omega));have HL:=xh (show w.heap.size∉F/\w.heap.size+1∉F from⟨λhm=>by have:=h.2.lt _ hm;omega,λhm=>by have:=h.2.lt _ hm;omega⟩);obtain⟨eb,rb,rfl⟩:∃e r,lb=e::r:=by
  have:=S2.1;rw[lZ]at this
  cases lb with
  |nil=>simp at this;omega
  |cons e r=>exact⟨e,r,rfl⟩
 obtain⟨RR,bG⟩:∃RR,q.Az leaf la (eb::rb)=RR:=⟨_,rfl⟩;rw[bG];unfold QS.Az keyOf at bG;generalize q.eB leaf la=R1 at *;obtain⟨q1,l1,e1⟩:=R1;dsimp only[List.headD_cons]at *;have eY:=xh bG;clear h S1 S2 bG NN;unfold tp bA at *;go_enter func130,ntmps130;go_wp2_with fail;refine KM1.o.mono ?_;rintro e w1 ⟨rfl,P1⟩;have S21:=xh (P1.Pc H0.o.1.2 H0.o.2.2);obtain⟨F1,T1,o1,f1⟩:=P1.tq H0.o.1;have B21:=xh (B2.o.only o1 HL.o.2)
 have H1:=xh (show TQ w1 tb I F1 q1 n (K+1)/\ag F w w1/\(∀g∈F1,g∈F\/w.heap.size<=g)/\w.heap.size+1∉F1 from
  ⟨T1,(ag.aj O0.o).trans o1,λg hg=>(f1 g hg).imp id (λh=>by simp at h;omega),λhm=>(f1 _ hm).elim HL.o.2 (λh=>by rw[jD,jD]at h;omega)⟩)
 clear P1 T1 o1 f1 x0 x1
 by_cases Ju:e1=0
 .subst Ju;have y0:=B21.o.ab (i:=0) rfl;have y1:=B21.o.ab (i:=1) rfl;have K2:=xh (KM2.o w1 F1 q1 H1.o.1 S21.o);have bG:=eY.o;rw[if_neg (by simp)]at bG;generalize q1.eB leaf (eb::rb)=R2 at *;obtain⟨q2,l2,e2⟩:=R2;dsimp only at *;have eY:=xh bG;clear bG;go_wp2_with fail;refine K2.o.mono ?_;rintro e w2 ⟨rfl,P2⟩;have S22:=xh (P2.Pc H1.o.1.2 S21.o);obtain⟨F2,T2,o2,f2⟩:=P2.tq H1.o.1;have B22:=xh (B21.o.only o2 H1.o.2.2.2)
  have H2:=xh (show TQ w2 tb I F2 q2 n (K+2)/\ag F w w2/\(∀g∈F2,g∈F\/w.heap.size<=g)from
   ⟨T2,H1.o.2.1.aO o2 (λg hg dH=>(H1.o.2.2.1 g hg).elim id (λh=>by omega)),λg hg=>(f2 g hg).elim (H1.o.2.2.1 g) (λh=>by have:=H1.o.2.1.size;omega)⟩)
  clear P2 T2 o2 f2 y0 y1
  by_cases rW:e2=0
  .subst rW;have bG:=eY.o;rw[if_neg (by simp)]at bG;obtain⟨g2,EP,Vh,oe,BB2,_,_⟩:=S22.o.form h0 (by omega);simp only[Value.slice.injEq,true_and]at oe;obtain⟨rfl,rfl⟩:=oe;have z1:=B22.o.ab (i:=1) rfl;have k0:w2.cell? ⟨g2,0,none⟩=some (.string eb.key):=BB2.ab rfl;have gV:=ae (Below.refl w2.heap.size w2) (.cells #[.string ⟨#[]⟩,.string ⟨#[]⟩,.int .i64 l1,.string eb.key,.string ⟨#[]⟩,.int .i64 l2] 111)
   have SN:aT (w2.alloc (.cells #[.string ⟨#[]⟩,.string ⟨#[]⟩,.int .i64 l1,.string eb.key,.string ⟨#[]⟩,.int .i64 l2] 111)) 111 3 (.slice (some ⟨w2.heap.size,0,none⟩) 2 2) 2 (aH [⟨⟨#[]⟩,⟨#[]⟩,l1⟩,⟨eb.key,⟨#[]⟩,l2⟩]):=
    ⟨rfl,.inr ⟨w2.heap.size,2,[],rfl,aJ.new w2 _ _,rfl,by unfold maxLen;omega⟩⟩
   have K3:=xh (KW.o _ F2 q2 (H2.o.1.below gV) w2.heap.size _ SN);have h0I:(0:Int)<(m2:Int):=by omega
   have HAL:=xh gV;clear BB2 gV SN;rw[bG]at K3;clear bG;go_wp2_with fail;refine K3.o.mono ?_;rintro e w3 ⟨rfl,P3,o3⟩;have H3:=xh (show PT w w3 I F RR.1 n (K+3)from⟨F2,P3,(H2.o.2.1.trans (.aj HAL.o)).aO o3 (λg hg dH=>(H2.o.2.2 g hg).elim id (λh=>by omega)),H2.o.2.2⟩);clear P3 o3 z1 k0;go_wp2_with fail;go_ret;exact aE H3.o
  .have bG:=eY.o;rw[if_pos rW]at bG;subst bG;have hq:(e2 != 0)=true:=by rw[bne_iff_ne];exact rW
   have kt:(e2==0)=false:=by rw[beq_eq_false_iff_ne];exact rW
   go_wp2_with fail;go_ret;exact aE ⟨F2,H2.o.1.2.le (by omega),H2.o.2.1,H2.o.2.2⟩
 .have bG:=eY.o;rw[if_pos Ju]at bG;subst bG;have hq:(e1 != 0)=true:=by rw[bne_iff_ne];exact Ju
  have kt:(e1==0)=false:=by rw[beq_eq_false_iff_ne];exact Ju
  go_wp2_with fail;go_ret;exact aE ⟨F1,H1.o.1.2.le (by omega),H1.o.2.1,H1.o.2.2.1⟩
variable{g m cc b n K:Nat}{l:List E}{w W W':World}{F F':List Nat}{I:Ix}{q:QS}
section
variable{w w':World}{b:Nat}{v:Value}{L:List SM}{I:Ix}{F S:List Nat}{q:QS}{n K:Nat}
theorem aR.off(h:aR w b v L)(P:PQ w I F q n K):(∀g∈ai v,g∉F)/\∀x∈L,∀g∈ai x.v,g∉F:=
 ⟨λg hg=>by
  obtain⟨cs,B⟩:=yB h.s g hg;exact P.iV B,λx hx g hg=>by
  obtain⟨cs,B⟩:=yB (h.e x hx).1 g hg;exact P.iV B⟩
theorem aR.uJ(h:aR w b v L)(P:PQ w I F q n K)(o:ag F w w'):aR w' b v L:=
 ⟨h.s.only o (h.off P).1,h.f,λx hx=>⟨(h.e x hx).1.only o ((h.off P).2 x hx),(h.e x hx).2⟩,h.d⟩
theorem aR.cell(h:aR w b (.slice (some ⟨g,0,none⟩) m cc) L){k:Nat}{Z:SM}(hz:L[k]?=some Z)(i:Nat)(hi:i<4):w.cell? ⟨g,k*4+i,none⟩=Z.cells[i]?:=by
 obtain⟨rest,B,_⟩:=h.s.tx;have hk:=(aS.1 hz).1;rw[B.cell,dj,bF (by rw[eV];omega)];exact rq hz i hi
theorem aR.tree{tb:Nat}{cs:Array Value}(h:aR w b v L)(B:aJ w tb 130 cs):tb∉ai v/\∀x∈L,tb∉ai x.v:=
 ⟨cU h.s B (by decide),λx hx=>cU (h.e x hx).1 B (by decide)⟩
theorem aR.pop{X:SM}(h:aR w b (.slice (some ⟨g,0,none⟩) m cc) (L++[X])):aR w b (.slice (some ⟨g,0,none⟩) L.length cc) L:=by
 obtain⟨rest,B,h1,_,h2⟩:=h.s.tx;rw[sr,cr]at B;have hl:(L.flatMap SM.cells).length+(([X]:List SM).flatMap SM.cells++rest).length=cc*4:=by
  rw[sr,aU]at h1;rw[aU];omega
 refine⟨⟨by rw[eV],.inr ⟨g,cc,_,rfl,B,hl,h2⟩⟩,λx hx=>h.f x (by simpa [ai]using hx),λx hx=>h.e x (cd _ hx),(dR.1 h.d).1⟩
theorem aR.put{Lp Ls:List SM}{Y:SM}(h:aR w b (.slice (some ⟨g,0,none⟩) m cc) (Lp++Y::Ls))(l':List E){A':Option Addr}{c':Nat}(S':aT w' 111 3 (.slice A' l'.length c') l'.length (aH l'))(o:ag (ai Y.v) w w')
 (f:∀x∈ai (.slice A' l'.length c'),x∈ai Y.v\/w.heap.size<=x)(hbw:b<=w.heap.size):
  aR (w'.setCell ⟨g,Lp.length*4+2,none⟩ (.slice A' l'.length c')) b (.slice (some ⟨g,0,none⟩) m cc) (Lp++⟨{Y.s with l:=l'},A',c'⟩::Ls)/\w'.cell? ⟨g,Lp.length*4+2,none⟩=some Y.v/\w'.frozen? ⟨g,Lp.length*4+2,none⟩=false:=by
 obtain⟨rest,B,h1,hm,h2⟩:=h.s.tx;have hY:=h.e Y (by simp);have hgY:g∉ai Y.v:=λhg=>ig hY.1 h.s (by decide) g hg (by simp[ai]);have B':=B.only o hgY;have hlen:(Lp++Y::Ls).length=(Lp++(⟨{Y.s with l:=l'},A',c'⟩:SM)::Ls).length:=by simp
 have qb:(Lp++Y::Ls).flatMap SM.cells=Lp.flatMap SM.cells++(Y.cells++Ls.flatMap SM.cells):=by rw[sr,gW]
 have EJ:(((Lp++Y::Ls).flatMap SM.cells++rest).set (Lp.length*4+2) (.slice A' l'.length c'))=(Lp++(⟨{Y.s with l:=l'},A',c'⟩:SM)::Ls).flatMap SM.cells++rest:=by
  rw[qb,cr,qN _ _ (by rw[eV];omega),eV,show Lp.length*4+2-Lp.length*4=2 by omega,sr,gW];simp only[cr];rfl
 have hix:Lp.length*4+2<((Lp++Y::Ls).flatMap SM.cells++rest).toArray.size:=by
  have h4:Y.cells.length=4:=rfl;rw[qb];simp only[lS,aU,eV,h4];omega
 have BS:=B'.bE (Lp.length*4+2) (.slice A' l'.length c');rw[tN,EJ]at BS;have sd:∀Z∈Lp++Ls,∀x∈ai Z.v,x∉ai Y.v:=λZ hZ x hx hy=>by
  have hd:=dR.1 h.d
  rcases aC.1 hZ with hZ|hZ
  .exact hd.2.2 Z hZ Y (by simp) x hx hy
  .exact(ef.1 hd.2.1).1 Z hZ x hy hx
 have lt:∀Z∈Lp++Ls,∀x∈ai Z.v,x<w.heap.size:=λZ hZ=>(h.e Z (by rcases aC.1 hZ with hZ|hZ<;>simp[hZ])).1.lt;have sn:∀Z∈Lp++Ls,∀x∈ai Z.v,x∉ai (.slice A' l'.length c'):=λZ hZ x hx hy=>by
  rcases f x hy with h3|h3
  .exact sd Z hZ x hx h3
  .have:=lt Z hZ x hx;omega
 have og:ag [g] w' (w'.setCell ⟨g,Lp.length*4+2,none⟩ (.slice A' l'.length c')):=(ag.refl _ _).setCell (by simp) _;have pD:∀Z∈Lp++Ls,aT (w'.setCell ⟨g,Lp.length*4+2,none⟩ (.slice A' l'.length c')) 111 3 Z.v Z.s.l.length (aH Z.s.l)/\∀x∈ai Z.v,b<=x:=λZ hZ=>by
  have hz:=h.e Z (by rcases aC.1 hZ with hZ|hZ<;>simp[hZ]);have s1:=hz.1.only o (sd Z hZ);exact⟨s1.only og (λx hx hg=>cU s1 B' (by decide) (by rw[<-aQ.1 hg];exact hx)),hz.2⟩
 refine⟨⟨⟨?_,?_⟩,λx hx=>h.f x (by simpa [ai]using hx),λZ hZ=>?_,?_⟩,?_,B'.frozen _ hix⟩
 .rw[<-hlen,eV,<-hlen]
 .rw[<-hlen,hm];refine .inr ⟨g,cc,rest,rfl,BS,?_,h2⟩;rw[eV]at h1 ⊢;rw[<-hlen];exact h1
 .rcases aC.1 hZ with hZ|hZ
  .exact pD Z (cd _ hZ)
  .rcases an.1 hZ with rfl|hZ
   .exact⟨S'.only og (λx hx hg=>cU S' B' (by decide) (by rw[<-aQ.1 hg];exact hx)),λx hx=>(f x hx).elim (hY.2 x) (λh=>by omega)⟩
   .exact pD Z (bK _ hZ)
 .have hd:=dR.1 h.d;rw[dR];refine⟨hd.1,ef.2 ⟨λZ hZ x hx hy=>sn Z (bK _ hZ) x hy hx,(ef.1 hd.2.1).2⟩,λZ hZ W hW=>?_⟩
  rcases an.1 hW with rfl|hW
  .exact sn Z (cd _ hZ)
  .exact hd.2.2 Z hZ W (ax _ hW)
 .refine B'.ab ?_;rw[qb,dj,cr,dW (by rw[eV];omega),eV,show Lp.length*4+2-Lp.length*4=2 by omega];rfl
end
def gm:Nat->List Step->QS->QS×Int
 |0,_,q=>(q,0)
 |_+1,[],q=>(q,0)
 |m+1,x::up,q=>
  if(q.db x.aq x.leaf x.l).2≠11\/(bH x.leaf x.l).2=0 then q.db x.aq x.leaf x.l
  else match up with
   |[]=>(q.db x.aq x.leaf x.l).1.Az x.leaf (x.l.take (bU x.l)) (x.l.drop (bU x.l))
   |y::up=>
    if((q.db x.aq x.leaf x.l).1.eB x.leaf (x.l.drop (bU x.l))).2.2≠0 then(((q.db x.aq x.leaf x.l).1.eB x.leaf (x.l.drop (bU x.l))).1,((q.db x.aq x.leaf x.l).1.eB x.leaf (x.l.drop (bU x.l))).2.2)
    else if(((q.db x.aq x.leaf x.l).1.eB x.leaf (x.l.drop (bU x.l))).1.db x.aq x.leaf (x.l.take (bU x.l))).2≠0 then((q.db x.aq x.leaf x.l).1.eB x.leaf (x.l.drop (bU x.l))).1.db x.aq x.leaf (x.l.take (bU x.l))
    else gm m ({y with l:=y.l.insertIdx (y.at_+1) ⟨keyOf (x.l.drop (bU x.l)),⟨#[]⟩,((q.db x.aq x.leaf x.l).1.eB x.leaf (x.l.drop (bU x.l))).2.1⟩}::up)
     (((q.db x.aq x.leaf x.l).1.eB x.leaf (x.l.drop (bU x.l))).1.db x.aq x.leaf (x.l.take (bU x.l))).1
def Iz(l:List E):Prop:=l.length<=90/\∀e∈l,e.key.size<=32/\e.val.size<=40
theorem IA(h:Iz l):Nd.ao l<=100000:=by
 obtain⟨h1,h2⟩:=h;have:∀l:List E,(∀e∈l,e.key.size<=32/\e.val.size<=40)->Nd.ao l<=79*l.length:=λl h=>by
  induction l with
  |nil=>simp[Nd.ao]
  |cons e l ih=>
   have h1:=h e (by simp);have h3:=ih (λx hx=>h x (by simp[hx]));unfold Nd.ao at *;simp only[fN,kS,fI];omega
 have:=this l h2;omega
theorem Vj{leaf:Bool}(h:(bH leaf l).2≠0)(h2:(bH leaf l).2≠2)(hl:Iz l):2<=l.length:=by
 unfold bH bj at h h2
 split at h2
 .rename_i hm;rw[if_pos hm]at h
  split at h2
  .rename_i hr;rw[if_pos hr]at h;exact absurd rfl h
  .rename_i hr
   rcases l with _|⟨e,_|⟨e2,r⟩⟩
   .exfalso;apply hr
    cases leaf<;>decide
   .exfalso;apply hr;have hh:=hl.2 e (by simp);rw[Nd.Ak];have:Nd.ao (blank leaf [e])<=79:=by
     have h0:(⟨#[]⟩:ByteArray).size=0:=rfl
     cases leaf
     .show Nd.ao [{e with key:=⟨#[]⟩}]<=79;simp only[Nd.ao,fN,qI,kS,List.sum_nil,h0];omega
     .show Nd.ao [e]<=79;simp only[Nd.ao,fN,qI,kS,List.sum_nil];omega
    omega
   .simp
 .exact absurd rfl h2
def PB(b:Nat)(w w':World)(I:Ix)(F:List Nat)(q:QS)(n K:Nat):Prop:= ∃F' S,PQ w' I F' q n K/\ag S w w'/\(∀g∈S,g∈F\/b<=g)/\∀g∈F',g∈F\/b<=g
def OB(b:Nat)(w W:World)(F F':List Nat):Prop:= ∃S,ag S w W/\(∀g∈S,g∈F\/b<=g)/\∀g∈F',g∈F\/b<=g
theorem OB.refl(b:Nat)(w:World)(F:List Nat):OB b w w F F:=⟨[],ag.refl _ _,by simp,λ_ h=> .inl h⟩
theorem OB.step{F'':List Nat}(h:OB b w W F F')(hb:b<=w.heap.size)(o:ag F' W W')(f:∀g∈F'',g∈F'\/W.heap.size<=g):OB b w W' F F'':=by
 obtain⟨S,a1,a2,a3⟩:=h;refine⟨S++F',(a1.mono (λg hg _=>cd _ hg)).aO o (λg hg _=>bK _ hg),λg hg=>(aC.1 hg).elim (a2 g) (a3 g),λg hg=>(f g hg).elim (a3 g) (λh=> .inr (by have:=a1.size;omega))⟩
theorem OB.own{S:List Nat}(h:OB b w W F F')(o:ag S W W')(f:∀g∈S,b<=g):OB b w W' F F':=by
 obtain⟨T,a1,a2,a3⟩:=h;exact⟨T++S,(a1.mono (λg hg _=>cd _ hg)).aO o (λg hg _=>bK _ hg),λg hg=>(aC.1 hg).elim (a2 g) (λh=> .inr (f g h)),a3⟩
theorem OB.below(h:OB b w W F F')(hb:Below W.heap.size W W'):OB b w W' F F':=h.own (S:=[]) (.aj hb) (by simp)
theorem OB.pb(h:OB b w W F F')(P:PQ W I F' q n K):PB b w W I F q n K:=by
 obtain⟨S,a1,a2,a3⟩:=h;exact⟨F',S,P,a1,a2,a3⟩
theorem OB.size(h:OB b w W F F'):w.heap.size<=W.heap.size:=by
 obtain⟨S,a1,_⟩:=h;exact a1.size
theorem OB.trans(h:OB b w W F F')(p:PB b W W' I F' q n K):PB b w W' I F q n K:=by
 obtain⟨S,a1,a2,a3⟩:=h;obtain⟨F2,S2,P,b1,b2,b3⟩:=p;refine⟨F2,S++S2,P,(a1.mono (λg hg _=>cd _ hg)).aO b1 (λg hg _=>bK _ hg),λg hg=>(aC.1 hg).elim (a2 g) (λh=>(b2 g h).elim (a3 g) .inr),λg hg=>(b3 g hg).elim (a3 g) .inr⟩
theorem PB.le{K':Nat}(h:PB b w W I F q n K)(hk:K<=K'):PB b w W I F q n K':=by
 obtain⟨F',S,P,r⟩:=h;exact⟨F',S,P.le hk,r⟩
structure Fit(s:Step):Prop where
 l:Iz s.l
 n:s.l.length<=80
 a:s.at_<s.l.length
theorem jX:∀(m:Nat) {w:World} {tb:Nat} {I:Ix} {F:List Nat} {q:QS} {n Kz b:Nat} {v:Value} {L:List SM} (pre:List Step) (x:Step),pre.length+1<=m->TQ w tb I F q n Kz->Kz+4*m<=999999999900->aR w b v L->b<=w.heap.size->L.map SM.s=pre++[x]->(∀s∈pre,Fit s)->Iz x.l->pre.length<=16->
  Calls prog 75 #[tp tb,v] w λe w'=>e=.returned (.int .i64 (gm m (x::pre.reverse) q).2)/\PB b w w' I F (gm m (x::pre.reverse) q).1 n (Kz+4*m)
 |0,_,_,_,_,_,_,_,_,_,_,_,_,h,_,_,_,_,_,_,_,_=>absurd h (by omega)
 |m+1,w,tb,I,F,q,n,Kz,b,v,L,pre,x,hpm,h,Vk,SA,hb,nV,rH,hlx,hp16=>by
  obtain⟨Lp,A,c,g,cc,hL,lQ,rfl,hbg,Gl,tC,ic,Rv,S1,f1⟩:=SA.last nV;have HL:=xh hL;have S1:=xh S1;have HK:=xh Vk;have ET:w.cell? ⟨g,pre.length*4,none⟩=some (.int .i64 x.aq):=ic 0 (by omega);have hx1:w.cell? ⟨g,pre.length*4+1,none⟩=some (.bool x.leaf):=ic 1 (by omega);have Rw:w.cell? ⟨g,pre.length*4+2,none⟩=some (.slice A x.l.length c):=ic 2 (by omega);have hx3:w.cell? ⟨g,pre.length*4+3,none⟩=some (.int .i64 (x.at_:Nat)):=ic 3 (by omega)
  have s1:IntKind.i64.wrap (((pre.length+1:Nat):Int)-1)=(pre.length:Int):=by rw[show((pre.length+1:Nat):Int)-1=(pre.length:Int) by omega];exact IntWalk.i64_in _ (by omega)
  have s2:(pre.length:Int)<((pre.length+1:Nat):Int):=by omega
  have gV:=ae (Below.refl w.heap.size w) (.cells #[.int .i64 x.aq,.bool x.leaf,.slice A x.l.length c,.int .i64 (x.at_:Nat)] 120);have BS:=xh (aJ.new w 120 #[.int .i64 x.aq,.bool x.leaf,.slice A x.l.length c,.int .i64 (x.at_:Nat)]);have y0:=BS.o.ab (i:=0) rfl;have y1:=BS.o.ab (i:=1) rfl;have y2:=BS.o.ab (i:=2) rfl
  have H1:=xh (show TQ _ tb I F q n Kz/\aR _ b (.slice (some ⟨g,0,none⟩) (pre.length+1) cc) L/\aT _ 111 3 (.slice A x.l.length c) x.l.length (aH x.l)/\OB b w _ F F from⟨h.below gV,SA.below gV,S1.o.below gV,(OB.refl b w F).below gV⟩)
  have KW:=xh (λ(W:World) (F':List Nat) (qj:QS) (Kj:Nat) (hW:TQ W tb I F' qj n Kj) (hk:Kj<=999999999900) (A:Option Addr) (mm c:Nat) (l:List E) (S:aT W 111 3 (.slice A mm c) mm (aH l)) (hm:mm<=1000)=>oY hW (by omega) x.aq x.leaf A mm c l S hm);have oX:=xh rH;have HPM:=xh hpm;have sS:=xh hp16;have HPRE:=xh lQ;have HLX:=xh hlx;have mR:=hlx.1;obtain⟨RR,bG⟩:∃RR,gm (m+1) (x::pre.reverse) q=RR:=⟨_,rfl⟩;rw[bG];unfold gm at bG
  have eY:=xh bG;clear bG h SA nV rH lQ hlx ic Rv f1 hL gV;have K1:=xh (KW.o _ F q Kz H1.o.1 (by omega) A x.l.length c x.l H1.o.2.2.1 (by omega));have hwr:(q.db x.aq x.leaf x.l).2=11->(bH x.leaf x.l).2≠0->2<=x.l.length:=λh1 h2=>Vj h2 (λh3=>by unfold QS.db at h1;rw[if_pos h2,h3]at h1;exact absurd h1 (by show(2:Int)≠11;decide)) HLX.o;generalize q.db x.aq x.leaf x.l=R at *;obtain⟨q1,e1⟩:=R;dsimp only at *;have HWR:=xh hwr
  clear hwr;unfold tp bA at *;go_enter func75,ntmps75;go_wp2_with fail;refine K1.o.mono ?_;rintro e w2 ⟨rfl,P2,o2⟩;have B2:=xh (BS.o.only o2 (H1.o.1.2.iV BS.o));have H2:=xh (show TQ w2 tb I F q1 n (Kz+1)/\aR w2 b (.slice (some ⟨g,0,none⟩) (pre.length+1) cc) L/\aT w2 111 3 (.slice A x.l.length c) x.l.length (aH x.l)/\OB b w w2 F F from
   ⟨H1.o.1.next o2 P2,H1.o.2.1.uJ H1.o.1.2 o2,PT.Pc (.self P2 o2) H1.o.1.2 H1.o.2.2.1,H1.o.2.2.2.step hb o2 (λg hg=> .inl hg)⟩)
  clear P2 o2 y0 y1 y2 ET hx1 Rw hx3;have z0:=B2.o.ab (i:=0) rfl;have z1:=B2.o.ab (i:=1) rfl;have z2:=B2.o.ab (i:=2) rfl
  by_cases he:e1=11
  .subst he;obtain⟨bb,ue⟩:∃bb,bb=decide ((bH x.leaf x.l).2=0):=⟨_,rfl⟩;have KF:=xh (QK (w:=w2) x.leaf A x.l.length c x.l H2.o.2.2.1 (by omega) bb ue);unfold bA at KF;have HBB:=xh ue;clear ue;go_wp2_with fail;refine KF.o.mono ?_;rintro e w3 ⟨rfl,gh⟩;have B3:=xh (B2.o.below gh B2.o.lt)
   have H3:=xh (show TQ w3 tb I F q1 n (Kz+1)/\aR w3 b (.slice (some ⟨g,0,none⟩) (pre.length+1) cc) L/\aT w3 111 3 (.slice A x.l.length c) x.l.length (aH x.l)/\OB b w w3 F F from⟨H2.o.1.below gh,H2.o.2.1.below gh,H2.o.2.2.1.below gh,H2.o.2.2.2.below gh⟩);clear gh z0 z1 z2;have z0:=B3.o.ab (i:=0) rfl;have z1:=B3.o.ab (i:=1) rfl;have z2:=B3.o.ab (i:=2) rfl
   cases bb
   .have qb:(bH x.leaf x.l).2≠0:=by have:=HBB.o;simpa using this.symm
    have h2l:=HWR.o (by trivial) qb;have HLT3:=xh (show ∀Z∈L,∀g∈ai Z.v,g<w3.heap.size from λZ hZ=>(H3.o.2.1.e Z hZ).1.lt);have KH:=xh (Nd.Ml (w:=w3) x.leaf A x.l.length c x.l H3.o.2.2.1 h2l (by omega) (IA HLX.o));unfold bA at KH;have bG:=eY.o;rw[if_neg (by simp[qb])]at bG;have eY:=xh bG;clear bG HWR;go_wp2_with fail;refine KH.o.mono ?_;rintro e w4 ⟨⟨t,A1,c1,A2,c2,rfl,N3,SL1,SL2,BO⟩,jw⟩;obtain rfl:bU x.l=t:=Nd.NZ N3
    have HF2:=xh BO;clear BO;have hb12:1<=bU x.l/\bU x.l<x.l.length:=⟨N3.1,N3.2.1⟩;clear N3;have gV:=ae (ae (Below.refl w4.heap.size w4) (.cells #[.bool x.leaf,.slice A1 (bU x.l) c1] 118)) (.cells #[.bool x.leaf,.slice A2 (x.l.length-bU x.l) c2] 118);have nC:=aB jw gV;have BA:=xh ((aJ.new w4 118 #[.bool x.leaf,.slice A1 (bU x.l) c1]).alloc (.cells #[.bool x.leaf,.slice A2 (x.l.length-bU x.l) c2] 118))
    have bB:=aJ.new (w4.alloc (.cells #[.bool x.leaf,.slice A1 (bU x.l) c1] 118)) 118 #[.bool x.leaf,.slice A2 (x.l.length-bU x.l) c2];rw[jD]at bB;have BB:=xh bB;have B5:=xh (B3.o.below nC B3.o.lt)
    have H5:=xh (show TQ _ tb I F q1 n (Kz+1)/\aR _ b (.slice (some ⟨g,0,none⟩) (pre.length+1) cc) L/\OB b w _ F F/\aT _ 111 3 (.slice A1 (bU x.l) c1) (bU x.l) (aH (x.l.take (bU x.l)))/\aT _ 111 3 (.slice A2 (x.l.length-bU x.l) c2) (x.l.length-bU x.l) (aH (x.l.drop (bU x.l)))from
     ⟨H3.o.1.below nC,H3.o.2.1.below nC,H3.o.2.2.2.below nC,SL1.below gV,SL2.below gV⟩)
    have u0:=BA.o.ab (i:=0) rfl;have u1:=BA.o.ab (i:=1) rfl;have v0:=BB.o.ab (i:=0) rfl;have v1:=BB.o.ab (i:=1) rfl;clear z0 z1 z2 bB jw nC gV SL1 SL2 H3 B3;generalize bU x.l=hf at *
    rcases sk pre with rfl|⟨dQ,y,hpe⟩
    .have KG:=xh (QN H5.o.1 (by omega) x.leaf A1 hf c1 (x.l.take hf) H5.o.2.2.2.1 A2 (x.l.length-hf) c2 (x.l.drop hf) H5.o.2.2.2.2 (by omega) (by omega) (by omega));have bG:=eY.o;dsimp only[List.reverse_nil]at bG;rw[bG]at KG;unfold bA at KG;clear bG;go_wp2_with fail;refine KG.o.mono ?_;rintro e w6 ⟨rfl,P6⟩;have P6:=xh P6;clear u0 u1 v0 v1;go_wp2_with fail;go_ret;refine⟨by first|rfl|simp,?_⟩;obtain⟨F6,P,o,f⟩:=P6.o
     exact((H5.o.2.2.1.step hb o f).pb P).le (by omega)
    .obtain rfl:pre=dQ++[y]:=by simpa using hpe
     clear hpe;have x6:(dQ++[y]).length=dQ.length+1:=by simp
     have hne1:¬(((dQ.length+1+1:Nat):Int)=1):=by omega
     have KM:=xh (wv H5.o.1 (by omega) x.leaf A2 (x.l.length-hf) c2 (x.l.drop hf) H5.o.2.2.2.2 (by omega));have bG:=eY.o;rw[List.reverse_append,List.reverse_singleton,qO]at bG;dsimp only at bG;generalize q1.eB x.leaf (x.l.drop hf)=R2 at *;obtain⟨q2,l2,e2⟩:=R2;dsimp only at *;have eY:=xh bG;unfold bA at KM;clear bG;go_wp2_with fail;refine KM.o.mono ?_;rintro e w6 ⟨rfl,P6⟩;have SA6:=P6.Pc H5.o.1.2 H5.o.2.2.2.1
     have SB6:=P6.Pc H5.o.1.2 H5.o.2.2.2.2;obtain⟨F6,T6,o6,f6⟩:=P6.tq H5.o.1;have A6:=xh (BA.o.only o6 (H5.o.1.2.iV BA.o));have B6:=xh (BB.o.only o6 (H5.o.1.2.iV BB.o));have D6:=xh (B5.o.only o6 (H5.o.1.2.iV B5.o))
     have H6:=xh (show TQ w6 tb I F6 q2 n (Kz+2)/\aR w6 b (.slice (some ⟨g,0,none⟩) ((dQ++[y]).length+1) cc) L/\OB b w w6 F F6/\aT w6 111 3 (.slice A1 hf c1) hf (aH (x.l.take hf))/\aT w6 111 3 (.slice A2 (x.l.length-hf) c2) (x.l.length-hf) (aH (x.l.drop hf))from
      ⟨T6,H5.o.2.1.uJ H5.o.1.2 o6,H5.o.2.2.1.step hb o6 f6,SA6,SB6⟩)
     clear P6 SA6 SB6 T6 o6 f6 u0 u1 v0 v1 BA BB B5
     by_cases rW:e2=0
     .subst rW;have bG:=eY.o;rw[if_neg (by simp)]at bG;have K7:=xh (KW.o w6 F6 q2 (Kz+2) H6.o.1 (by omega) A1 hf c1 (x.l.take hf) H6.o.2.2.2.1 (by omega));generalize q2.db x.aq x.leaf (x.l.take hf)=R3 at *;obtain⟨q3,e3⟩:=R3;dsimp only at *;have eY:=xh bG;have z0:=D6.o.ab (i:=0) rfl;have u0:=A6.o.ab (i:=0) rfl;have u1:=A6.o.ab (i:=1) rfl;clear bG;go_wp2_with fail;refine K7.o.mono ?_;rintro e w7 ⟨rfl,P7,o7⟩
      have B7:=xh (B6.o.only o7 (H6.o.1.2.iV B6.o));have H7:=xh (show TQ w7 tb I F6 q3 n (Kz+3)/\aR w7 b (.slice (some ⟨g,0,none⟩) ((dQ++[y]).length+1) cc) L/\OB b w w7 F F6/\aT w7 111 3 (.slice A2 (x.l.length-hf) c2) (x.l.length-hf) (aH (x.l.drop hf))from
       ⟨H6.o.1.next o7 P7,H6.o.2.1.uJ H6.o.1.2 o7,H6.o.2.2.1.step hb o7 (λg hg=> .inl hg),PT.Pc (.self P7 o7) H6.o.1.2 H6.o.2.2.2.2⟩)
      clear P7 o7 z0 u0 u1 A6 B6 D6
      by_cases N7:e3=0
      .subst N7;obtain⟨tG,AY,cY,rfl,Mt⟩:∃tG AY cY,Lp=tG++[(⟨y,AY,cY⟩:SM)]/\tG.map SM.s=dQ:=by
        have:=HPRE.o
        rcases sk Lp with h0|⟨tG,Y,h0⟩
        .rw[h0]at this;simp at this
        .have h0:Lp=tG++[Y]:=by simpa using h0
         rw[h0,dA]at this;obtain⟨a1,a2⟩:=JB this rfl;obtain⟨ys,AY,cY⟩:=Y;simp at a2;subst a2;exact⟨tG,AY,cY,h0,a1⟩
       have hLL:tG.length=dQ.length:=by rw[<-Mt,fo]
       have mf:=xh hLL;have Vl:=xh Mt;have hHL:=HL.o;rw[cr,qO]at hHL;have hfy:=oX.o y (by simp);have hya:=hfy.a;have hyn:=hfy.n;have HFY:=xh hfy;obtain⟨eb,rb,Hs⟩:∃eb rb,x.l.drop hf=eb::rb:=by
        cases hd:x.l.drop hf with
        |nil=>have:=congrArg List.length hd;rw[cO]at this;simp at this;omega
        |cons e r=>exact⟨e,r,rfl⟩
       obtain⟨g2,EP,Vh,oe,BB2,_,_⟩:=H7.o.2.2.2.form (by omega) (by omega);simp only[Value.slice.injEq,true_and]at oe;obtain⟨rfl,rfl⟩:=oe;rw[Hs]at BB2;have bG:=eY.o;rw[if_neg (by simp),Hs]at bG;have eY:=xh bG
       have H8:=xh (show TQ w7.drew tb I F6 q3 n (Kz+3)/\aR w7.drew b (.slice (some ⟨g,0,none⟩) ((dQ++[y]).length+1) cc) (tG++⟨y,AY,cY⟩::[⟨x,A,c⟩])/\OB b w w7.drew F F6/\aJ w7.drew (w4.heap.size+1) 118 #[.bool x.leaf,.slice (some ⟨g2,0,none⟩) (x.l.length-hf) c2]/\aJ w7.drew g2 111 (aH (eb::rb)++Vh).toArray from
        ⟨H7.o.1.drew,by have:=H7.o.2.1;rw[hHL]at this;exact this.below (Below.refl _ _).drew,H7.o.2.2.1.below (Below.refl _ _).drew,B7.o.drew,BB2.drew⟩)
       have HB8:=xh (show b<=w7.drew.heap.size from by have:=H7.o.2.2.1.size;show b<=w7.heap.size;omega);have HNY:=xh (show g2∉ai (.slice AY y.l.length cY)from λhm=>by have h1:=HF2.o g2 (by simp[ai]);have h2:=HLT3.o ⟨y,AY,cY⟩ (by rw[hHL];simp) g2 hm;omega);generalize w4.heap.size+1=gB at *;have s3:IntKind.i64.wrap (((dQ.length+1+1:Nat):Int)-2)=(dQ.length:Int):=by rw[show((dQ.length+1+1:Nat):Int)-2=(dQ.length:Int) by omega];exact IntWalk.i64_in _ (by omega)
       have s4:(dQ.length:Int)<((dQ.length+1+1:Nat):Int):=by omega
       have s5:IntKind.i64.wrap ((y.at_:Int)+1)=((y.at_+1:Nat):Int):=by rw[show(y.at_:Int)+1=((y.at_+1:Nat):Int) by omega];exact IntWalk.i64_in _ (by omega)
       have s7:0<x.l.length-hf:=by omega
       have s6:(0:Int)<((x.l.length-hf:Nat):Int):=by omega
       have HDR:=xh Hs;clear BB2 Hs bG H7 hHL Mt hLL hfy;go_wp2_with fail;obtain⟨w8,Cd⟩:∃w8,w7.drew=w8:=⟨_,rfl⟩;rw[Cd]at H8 HB8;have HS:=xh (show ∀W,Below w8.heap.size w8 W->(λW=>W.cell? ⟨g,dQ.length*4+3,none⟩=some (.int .i64 (y.at_:Nat))/\W.cell? ⟨gB,1,none⟩=some (.slice (some ⟨g2,0,none⟩) (x.l.length-hf) c2)/\W.cell? ⟨g2,0,none⟩=some (.string eb.key)) W from λW hb=>by
        have h1:=(H8.o.2.1.below hb).cell (k:=tG.length) (Z:=⟨y,AY,cY⟩) (by rw[dW (ak _),fy];rfl) 3 (by omega);rw[mf.o]at h1;exact⟨h1,(H8.o.2.2.2.1.below hb H8.o.2.2.2.1.lt).ab (i:=1) rfl,(H8.o.2.2.2.2.below hb H8.o.2.2.2.2.lt).ab (i:=0) rfl⟩)
       have QO:=xh (HS.o w8 (Below.refl _ _));have x8:w8.cell? ⟨g,dQ.length*4+2,none⟩=some (.slice AY y.l.length cY):=by
        have h1:=H8.o.2.1.cell (k:=tG.length) (Z:=⟨y,AY,cY⟩) (by rw[dW (ak _),fy];rfl) 2 (by omega);rw[mf.o]at h1;exact h1
       obtain⟨w9,Vm⟩:∃w9,w8.alloc (.cells #[.string eb.key,.string ⟨#[]⟩,.int .i64 l2] 111)=w9:=⟨_,rfl⟩;have jt:Below w8.heap.size w8 w9:=by rw[<-Vm];exact ae (Below.refl _ _) _
       have BN9:aJ w9 w8.heap.size 111 #[.string eb.key,.string ⟨#[]⟩,.int .i64 l2]:=by rw[<-Vm];exact aJ.new _ _ _
       have BZ9:w9.frozen? ⟨w8.heap.size,3,none⟩=false:=by rw[<-Vm];exact World.frozen?_alloc_at (w:=w8) _ _ w8.heap.size 3 rfl
       have N8:=xh (HS.o w9 jt);have x9:w9.cell? ⟨g,dQ.length*4+2,none⟩=some (.slice AY y.l.length cY):=(jt.cell (p:=⟨g,dQ.length*4+2,none⟩) (dX x8)).trans x8;have H9:=xh (show TQ w9 tb I F6 q3 n (Kz+3)/\aR w9 b (.slice (some ⟨g,0,none⟩) ((dQ++[y]).length+1) cc) (tG++⟨y,AY,cY⟩::[⟨x,A,c⟩])/\OB b w w9 F F6/\aJ w9 gB 118 #[.bool x.leaf,.slice (some ⟨g2,0,none⟩) (x.l.length-hf) c2]/\aJ w9 g2 111 (aH (eb::rb)++Vh).toArray from
        ⟨H8.o.1.below jt,H8.o.2.1.below jt,H8.o.2.2.1.below jt,H8.o.2.2.2.1.below jt H8.o.2.2.2.1.lt,H8.o.2.2.2.2.below jt H8.o.2.2.2.2.lt⟩)
       have HB9:=xh (show b<=w9.heap.size from ar HB8.o jt.size);have xJ:=xh (show(y.l.insertIdx (y.at_+1) (⟨eb.key,⟨#[]⟩,l2⟩:E)).length=y.l.length+1 from by rw[yK,if_pos (by omega)]);have SY:=H9.o.2.1.e ⟨y,AY,cY⟩ (by simp)
       have KI:=xh (Nd.qt (w:=w9) SY.1 ⟨eb.key,⟨#[]⟩,l2⟩ (g2:=w8.heap.size) (cc:=1) BN9 (show y.l.length<=100000 by omega) (λhm=>by have:=(H8.o.2.1.e ⟨y,AY,cY⟩ (by simp)).1.lt _ hm;omega) (y.at_+1) (show y.at_+1<=y.l.length by omega) BZ9)
       have Gk:=xh (show ∀W,ag (ai (.slice AY y.l.length cY)) w9 W->(λW=>W.cell? ⟨g,dQ.length*4+3,none⟩=some (.int .i64 (y.at_:Nat))/\W.cell? ⟨gB,1,none⟩=some (.slice (some ⟨g2,0,none⟩) (x.l.length-hf) c2)/\W.cell? ⟨g2,0,none⟩=some (.string eb.key)) W from λW o=>by
        have hgY:g∉ai (.slice AY y.l.length cY):=λhm=>ig SY.1 H9.o.2.1.s (by decide) g hm (by simp[ai]);obtain⟨k1,k2,k3⟩:=N8.o;exact⟨(o.cell (p:=⟨g,dQ.length*4+3,none⟩) (dX k1) hgY).trans k1,(H9.o.2.2.2.1.only o (cU SY.1 H9.o.2.2.2.1 (by decide))).ab (i:=1) rfl,(H9.o.2.2.2.2.only o HNY.o).ab (i:=0) rfl⟩)
       clear SY BN9 BZ9 jt;refine wp_region_held_drew (S:=λW=>W.cell? ⟨g,dQ.length*4+3,none⟩=some (.int .i64 (y.at_:Nat))/\W.cell? ⟨gB,1,none⟩=some (.slice (some ⟨g2,0,none⟩) (x.l.length-hf) c2)/\W.cell? ⟨g2,0,none⟩=some (.string eb.key)) (by kernel_rfl) (by rw[Cd];exact QO.o) (λah=>?_);rw[Cd];clear Cd;refine bM [(0,67),(1,68),(2,69),(3,70),(4,71),(6,73),(7,74),(8,75),(9,76),(10,77),(11,78),(12,79),(13,80),(14,81),(15,82),(16,83),(17,84)] ?_
       iterate 17 refine aG ?_
       refine wpAnyH_ready (rs:=[5,18]) (by kernel_rfl) (by simp) ?_;refine AllReadyH.cons (o:=⟨some 72,_,_,_,_,_⟩) rfl (λK hK=>?_) (AllReadyH.cons (o:=⟨some 85,_,_,_,_,_⟩) rfl (λK hK=>?_) AllReadyH.nil)
       .skip
        go_simp;refine aA hK (QO.o) (λah=>?_);refine bY 18 85 λK hK=>?_;go_simp;refine aA hK (N8.o) (λah=>?_);refine bY 19 86 λK hK=>?_;go_simp
        go_at_call 74
        refine KI.o.mono ?_;rintro e lY ⟨A',c',rfl,uF,nA,f10⟩;have uF:=xh uF;have nA:=xh nA;have f10:=xh f10;have AA:=xh (Gk.o lY nA.o);go_simp;refine aA hK (AA.o) (λah=>?_);refine bM [(20,87),(21,88),(22,89)] ?_
        iterate 3 refine aG ?_
        refine dv 23 λK hK=>?_;go_simp;obtain⟨SP,sx,sz⟩:=H9.o.2.1.put (y.l.insertIdx (y.at_+1) ⟨eb.key,⟨#[]⟩,l2⟩) (A':=A') (c':=c') (by rw[xJ.o];exact uF.o) nA.o (by rw[xJ.o];exact f10.o) HB9.o;rw[mf.o]at SP sx sz;rw[xJ.o]at SP;have SP:=xh SP;have sx:lY.cell? ⟨g,dQ.length*4+2,none⟩=some (.slice AY y.l.length cY):=sx
        have rL:=xh (show ag (g::ai (.slice AY y.l.length cY)) w9 (lY.setCell ⟨g,dQ.length*4+2,none⟩ (.slice A' (y.l.length+1) c'))from(nA.o.mono (λx hx _=>ax _ hx)).setCell (by simp) _);have QP:=(H9.o.2.1.e ⟨y,AY,cY⟩ (by simp)).1;have IB:=SP.o.cell (k:=tG.length) (Z:=⟨{y with l:=y.l.insertIdx (y.at_+1) ⟨eb.key,⟨#[]⟩,l2⟩},A',c'⟩) (by rw[dW (ak _),fy];rfl) 3 (by omega);rw[mf.o]at IB
        have wE:=xh (And.intro IB (And.intro (((H9.o.2.2.2.1.only nA.o (cU QP H9.o.2.2.2.1 (by decide))).aW (p:=⟨g,dQ.length*4+2,none⟩) (λe=>cU H9.o.2.1.s H9.o.2.2.2.1 (by decide) (by simp[ai];exact e)) (.slice A' (y.l.length+1) c')).ab (i:=1) rfl) (((H9.o.2.2.2.2.only nA.o HNY.o).aW (p:=⟨g,dQ.length*4+2,none⟩) (λe=>cU H9.o.2.1.s H9.o.2.2.2.2 (by decide) (by simp[ai];exact e)) (.slice A' (y.l.length+1) c')).ab (i:=0) rfl)))
        clear QP IB;go_simp;refine aA hK (wE.o) (λah=>?_);refine wpAnyH_done (by kernel_rfl) ?_ _;go_wp2_with fail;have hT:TQ (lY.setCell ⟨g,dQ.length*4+1+1,none⟩ (.slice A' (y.l.length+1) c')) tb I F6 q3 n (Kz+3):=by
         have kr:=H9.o.2.1.off H9.o.1.2;have sU:=H9.o.2.1.tree H9.o.1.1;exact H9.o.1.only rL.o (λz hz hm=>by
          rcases an.1 hz with h1|h1<;>rcases an.1 hm with h2|h2
          .exact sU.1 (by rw[<-h1,h2];simp[ai])
          .exact sU.2 ⟨y,AY,cY⟩ (by simp) (by rw[<-h1];exact h2)
          .exact kr.1 z (by rw[h2];simp[ai]) h1
          .exact kr.2 ⟨y,AY,cY⟩ (by simp) z h2 h1)
        have hO:OB b w (lY.setCell ⟨g,dQ.length*4+1+1,none⟩ (.slice A' (y.l.length+1) c')) F F6:=H9.o.2.2.1.own rL.o (λz hz=>by
         rcases an.1 hz with h2|h2
         .rw[h2];exact H9.o.2.1.f g (by simp[ai])
         .exact(H9.o.2.1.e ⟨y,AY,cY⟩ (by simp)).2 z h2)
        have IC:b<=(lY.setCell ⟨g,dQ.length*4+1+1,none⟩ (.slice A' (y.l.length+1) c')).heap.size:=ar HB9.o rL.o.size;have SQ:aR (lY.setCell ⟨g,dQ.length*4+1+1,none⟩ (.slice A' (y.l.length+1) c')) b (.slice (some ⟨g,0,none⟩) (dQ.length+1) cc) (tG++[(⟨{y with l:=y.l.insertIdx (y.at_+1) ⟨eb.key,⟨#[]⟩,l2⟩},A',c'⟩:SM)]):=by
         have h2:=aR.pop (L:=tG++[(⟨{y with l:=y.l.insertIdx (y.at_+1) ⟨eb.key,⟨#[]⟩,l2⟩},A',c'⟩:SM)]) (X:=⟨x,A,c⟩) (by rw[cr,qO];exact SP.o);rw[aU,mS,mf.o]at h2;exact h2
        have uK:=eY.o;subst uK;have hLX:=HLX.o;have Vn:eb∈x.l:=mV (i:=hf) (by rw[HDR.o];simp);have KR:=jX m dQ {y with l:=y.l.insertIdx (y.at_+1) ⟨eb.key,⟨#[]⟩,l2⟩} (by have:=HPM.o;rw[aU,mS]at this;omega) hT (by have:=HK.o;omega) SQ IC (by rw[dA,Vl.o];rfl) (λs hs=>oX.o s (by simp[hs]))
         ⟨by have:=HFY.o.n;show(y.l.insertIdx (y.at_+1) _).length<=90;rw[xJ.o];omega,λe he=>by
          rcases(qK (by omega)).1 he with rfl|he
          .exact⟨(hLX.2 eb Vn).1,by show(⟨#[]⟩:ByteArray).size<=40;decide⟩
          .exact HFY.o.l.2 e he⟩ (by have:=sS.o;rw[aU,mS]at this;omega)
        refine KR.mono ?_;rintro e w12 ⟨rfl,AB⟩;have AB:=xh AB;have HO:=xh hO;clear hT hO IC SQ hLX Vn KR;go_wp2_with fail;go_ret;exact⟨by first|rfl|simp[keyOf],(HO.o.trans AB.o).le (by omega)⟩
       .skip
        go_simp;refine aA hK (N8.o) (λah=>?_);refine bY 5 72 λK hK=>?_;go_simp;refine aA hK (N8.o) (λah=>?_);refine bY 19 86 λK hK=>?_;go_simp
        go_at_call 74
        refine KI.o.mono ?_;rintro e lY ⟨A',c',rfl,uF,nA,f10⟩;have uF:=xh uF;have nA:=xh nA;have f10:=xh f10;have AA:=xh (Gk.o lY nA.o);go_simp;refine aA hK (AA.o) (λah=>?_);refine bM [(20,87),(21,88),(22,89)] ?_
        iterate 3 refine aG ?_
        refine dv 23 λK hK=>?_;go_simp;obtain⟨SP,sx,sz⟩:=H9.o.2.1.put (y.l.insertIdx (y.at_+1) ⟨eb.key,⟨#[]⟩,l2⟩) (A':=A') (c':=c') (by rw[xJ.o];exact uF.o) nA.o (by rw[xJ.o];exact f10.o) HB9.o;rw[mf.o]at SP sx sz;rw[xJ.o]at SP;have SP:=xh SP;have sx:lY.cell? ⟨g,dQ.length*4+2,none⟩=some (.slice AY y.l.length cY):=sx
        have rL:=xh (show ag (g::ai (.slice AY y.l.length cY)) w9 (lY.setCell ⟨g,dQ.length*4+2,none⟩ (.slice A' (y.l.length+1) c'))from(nA.o.mono (λx hx _=>ax _ hx)).setCell (by simp) _);have QP:=(H9.o.2.1.e ⟨y,AY,cY⟩ (by simp)).1;have IB:=SP.o.cell (k:=tG.length) (Z:=⟨{y with l:=y.l.insertIdx (y.at_+1) ⟨eb.key,⟨#[]⟩,l2⟩},A',c'⟩) (by rw[dW (ak _),fy];rfl) 3 (by omega);rw[mf.o]at IB
        have wE:=xh (And.intro IB (And.intro (((H9.o.2.2.2.1.only nA.o (cU QP H9.o.2.2.2.1 (by decide))).aW (p:=⟨g,dQ.length*4+2,none⟩) (λe=>cU H9.o.2.1.s H9.o.2.2.2.1 (by decide) (by simp[ai];exact e)) (.slice A' (y.l.length+1) c')).ab (i:=1) rfl) (((H9.o.2.2.2.2.only nA.o HNY.o).aW (p:=⟨g,dQ.length*4+2,none⟩) (λe=>cU H9.o.2.1.s H9.o.2.2.2.2 (by decide) (by simp[ai];exact e)) (.slice A' (y.l.length+1) c')).ab (i:=0) rfl)))
        clear QP IB;go_simp;refine aA hK (wE.o) (λah=>?_);refine wpAnyH_done (by kernel_rfl) ?_ _;go_wp2_with fail;have hT:TQ (lY.setCell ⟨g,dQ.length*4+1+1,none⟩ (.slice A' (y.l.length+1) c')) tb I F6 q3 n (Kz+3):=by
         have kr:=H9.o.2.1.off H9.o.1.2;have sU:=H9.o.2.1.tree H9.o.1.1;exact H9.o.1.only rL.o (λz hz hm=>by
          rcases an.1 hz with h1|h1<;>rcases an.1 hm with h2|h2
          .exact sU.1 (by rw[<-h1,h2];simp[ai])
          .exact sU.2 ⟨y,AY,cY⟩ (by simp) (by rw[<-h1];exact h2)
          .exact kr.1 z (by rw[h2];simp[ai]) h1
          .exact kr.2 ⟨y,AY,cY⟩ (by simp) z h2 h1)
        have hO:OB b w (lY.setCell ⟨g,dQ.length*4+1+1,none⟩ (.slice A' (y.l.length+1) c')) F F6:=H9.o.2.2.1.own rL.o (λz hz=>by
         rcases an.1 hz with h2|h2
         .rw[h2];exact H9.o.2.1.f g (by simp[ai])
         .exact(H9.o.2.1.e ⟨y,AY,cY⟩ (by simp)).2 z h2)
        have IC:b<=(lY.setCell ⟨g,dQ.length*4+1+1,none⟩ (.slice A' (y.l.length+1) c')).heap.size:=ar HB9.o rL.o.size;have SQ:aR (lY.setCell ⟨g,dQ.length*4+1+1,none⟩ (.slice A' (y.l.length+1) c')) b (.slice (some ⟨g,0,none⟩) (dQ.length+1) cc) (tG++[(⟨{y with l:=y.l.insertIdx (y.at_+1) ⟨eb.key,⟨#[]⟩,l2⟩},A',c'⟩:SM)]):=by
         have h2:=aR.pop (L:=tG++[(⟨{y with l:=y.l.insertIdx (y.at_+1) ⟨eb.key,⟨#[]⟩,l2⟩},A',c'⟩:SM)]) (X:=⟨x,A,c⟩) (by rw[cr,qO];exact SP.o);rw[aU,mS,mf.o]at h2;exact h2
        have uK:=eY.o;subst uK;have hLX:=HLX.o;have Vn:eb∈x.l:=mV (i:=hf) (by rw[HDR.o];simp);have KR:=jX m dQ {y with l:=y.l.insertIdx (y.at_+1) ⟨eb.key,⟨#[]⟩,l2⟩} (by have:=HPM.o;rw[aU,mS]at this;omega) hT (by have:=HK.o;omega) SQ IC (by rw[dA,Vl.o];rfl) (λs hs=>oX.o s (by simp[hs]))
         ⟨by have:=HFY.o.n;show(y.l.insertIdx (y.at_+1) _).length<=90;rw[xJ.o];omega,λe he=>by
          rcases(qK (by omega)).1 he with rfl|he
          .exact⟨(hLX.2 eb Vn).1,by show(⟨#[]⟩:ByteArray).size<=40;decide⟩
          .exact HFY.o.l.2 e he⟩ (by have:=sS.o;rw[aU,mS]at this;omega)
        refine KR.mono ?_;rintro e w12 ⟨rfl,AB⟩;have AB:=xh AB;have HO:=xh hO;clear hT hO IC SQ hLX Vn KR;go_wp2_with fail;go_ret;exact⟨by first|rfl|simp[keyOf],(HO.o.trans AB.o).le (by omega)⟩
      .have bG:=eY.o;rw[if_pos N7]at bG;subst bG;have hq:(e3 != 0)=true:=by rw[bne_iff_ne];exact N7
       have kt:(e3==0)=false:=by rw[beq_eq_false_iff_ne];exact N7
       go_wp2_with fail;go_ret;exact aE ((H7.o.2.2.1.pb H7.o.1.2).le (by omega))
     .have bG:=eY.o;rw[if_pos rW]at bG;subst bG;have hq:(e2 != 0)=true:=by rw[bne_iff_ne];exact rW
      have kt:(e2==0)=false:=by rw[beq_eq_false_iff_ne];exact rW
      go_wp2_with fail;go_ret;exact aE ((H6.o.2.2.1.pb H6.o.1.2).le (by omega))
   .have qb:(bH x.leaf x.l).2=0:=by have:=HBB.o;simpa using this.symm
    have bG:=eY.o;rw[if_pos (.inr qb)]at bG;subst bG;go_wp2_with fail;go_ret;exact aE ((H3.o.2.2.2.pb H3.o.1.2).le (by omega))
  .have hq:(e1 != 11)=true:=by rw[bne_iff_ne];exact he
   have kt:(e1==11)=false:=by rw[beq_eq_false_iff_ne];exact he
   have bG:=eY.o;rw[if_pos (.inl he)]at bG;subst bG;go_wp2_with fail;go_ret;exact aE ((H2.o.2.2.2.pb H2.o.1.2).le (by omega))
end Sh
end Go.Proofs.YtmonobkginiajaaGreat
