/- packed. -/
import Derived.Lib.Overlaps
import Derived.Lib.SliceRun
import Derived.Lib.AppendZerosOnto
import Derived.Test.YtmonobkginiajaaGreatAp8
set_option linter.all false
set_option maxRecDepth 100000
set_option maxHeartbeats 8000000
namespace Go.Proofs.YtmonobkginiajaaGreat
open Go.Proofs.Tryz
section
open Go.RowKit
noncomputable def xO(P:Program)(T T' ty:TypeId)(w:World)(d s:Value):Result Value:=(Builtin.copy_ #[T,T'] ty #[d,s]).run P w
theorem GA(P:Program)(ρ:Operand->Value)(dst:Option Tmp)(d s:Operand)(T T' t:TypeId)(p:String)(af:Array Edge)(g:Option (Nat×Bool))(w:World):
  (execOp ρ {dst:=dst,op:= .call {callee:= .builtin .copy,args:= #[d,s],argTypes:= #[T,T']},type:=t,pos:=p,after:=af,guard:=g}).run P w=(xO P T T' t w (ρ d) (ρ s)).andThen λv w'=> .ok (.value v) w':=by
 simp[execOp,resolve,invoke,builtin,xO]
noncomputable def tT(P:Program)(T ty:TypeId)(w:World)(s:Value):Result Value:=(Builtin.clear_ #[T] ty #[s]).run P w
theorem Ta(P:Program)(ρ:Operand->Value)(dst:Option Tmp)(s:Operand)(T t:TypeId)(p:String)(af:Array Edge)(g:Option (Nat×Bool))(w:World):
  (execOp ρ {dst:=dst,op:= .call {callee:= .builtin .clear,args:= #[s],argTypes:= #[T]},type:=t,pos:=p,after:=af,guard:=g}).run P w=(tT P T t w (ρ s)).andThen λv w'=> .ok (.value v) w':=by
 simp[execOp,resolve,invoke,builtin,tT]
theorem tU{P:Program}{w:World}{g:Nat}{t:TypeId}{cur:List Value}(B:aE w g t cur.toArray)(T ty elem:TypeId)(sz o tm ye:Nat)(a:Addr)(II sCap:Nat)(cs:List Value)
  (hu:P.underlying T=some (.slice elem))(hs:(P.info? elem).map (·.size)=some sz)(hn:cs.length=Nat.min II tm*sz)
  (Qp:∀j v,cs[j]?=some v->w.cell? (a.add j)=some v)(rn:o+cs.length<=cur.length)(h1:∀v∈cs,v.oneCell'=true):
  ∃w',xO P T T ty w (.slice (some ⟨g,o,none⟩) tm ye) (.slice (some a) II sCap)= .ok (goInt (Nat.min II tm)) w'/\aE w' g t (putAt cur o cs).toArray/\ag [g] w w':=by
 refine⟨w.setCells g o cs,?_,B.setCells cs o rn,(ag.refl _ _).setCells cs o (by simp)⟩;have hl:=run_loadCells_list (P:=P) w a cs Qp;have ui:=run_storeCells_cells (P:=P) g o cs 0 w (by intro j hj;rw[B.cell];simp;omega) (by intro j hj;exact B.frozen _ (by simp;omega)) h1
 cases hq:P.info? elem with
 |none=>simp[hq]at hs
 |some i=>
  have hi:i.size=sz:=by simpa [hq]using hs
  simp[xO,Builtin.copy_,run_underlying hu,Builtin.lenOf,Builtin.firstCells,sizeOf,typeInfo,hq,hi,<-hn,hl,ui]
theorem Cm{P:Program}{w:World}{g:Nat}{t:TypeId}{cur:List Value}(B:aE w g t cur.toArray)(T ty elem:TypeId)(sz n cap:Nat)(a:Addr)(m c:Nat)(cs:List Value)
  (hu:P.underlying T=some (.slice elem))(hs:(P.info? elem).map (·.size)=some sz)(hn:cs.length=m*sz)
  (Qp:∀j v,cs[j]?=some v->w.cell? (a.add j)=some v)(hr:n+m<=cap)(rn:n*sz+cs.length<=cur.length)(h1:∀v∈cs,v.oneCell'=true):
  ∃w',df P T ty w (.slice (some ⟨g,0,none⟩) n cap) (.slice (some a) m c)= .ok (.slice (some ⟨g,0,none⟩) (n+m) cap) w'/\aE w' g t (putAt cur (n*sz) cs).toArray/\ag [g] w w':=by
 cases hq:P.info? elem with
 |none=>simp[hq]at hs
 |some i=>
  have hi:i.size=sz:=by simpa [hq]using hs
  subst hi;have h:=run_append_room_cells (P:=P) w T ty elem i hu hq g 0 n cap a m c cs hn Qp h1 hr (λj hj=>by rw[B.cell];simp;omega) (λj hj=>B.frozen _ (by simp;omega));rw[bh]at h;exact⟨_,h,B.setCells cs _ rn,(ag.refl _ _).setCells cs _ (by simp)⟩
theorem Co{P:Program}{w:World}{g:Nat}{t:TypeId}{cur:List Value}(B:aE w g t cur.toArray)(T ty elem:TypeId)(z:Value)(o c:Nat)
  (hu:P.underlying T=some (.slice elem))(hz:∀w,(zeroValue elem).run P w=.ok z w)(rn:o+z.cells.toList.length<=cur.length)(h1:∀v∈z.cells.toList,v.oneCell'=true):
  ∃w',tT P T ty w (.slice (some ⟨g,o,none⟩) 1 c)= .ok (.tuple #[]) w'/\aE w' g t (putAt cur o z.cells.toList).toArray/\ag [g] w w':=by
 refine⟨w.setCells g o z.cells.toList,?_,B.setCells _ o rn,(ag.refl _ _).setCells _ o (by simp)⟩;have hzc:(Builtin.zeroCells z.cells 1).toList=z.cells.toList:=by
  simp[Builtin.zeroCells];apply xZ
  .simp
  .intro i h1 h2;have:i<z.cells.size:=by simpa using h2
   simp[Dp this];rw[getElem!_pos z.cells i this]
 have ui:=run_storeCells_cells (P:=P) g o z.cells.toList 0 w (by intro j hj;rw[B.cell];simp at hj rn ⊢;omega) (by intro j hj;exact B.frozen _ (by simp at hj rn ⊢;omega)) h1;simp only[kE]at ui;simp[tT,Builtin.clear_,run_underlying hu,hz,hzc,ui]
namespace Nd
open Sl
section
attribute [local go_sem ↓] Go.wp_at_zero Go.wp_at_succ bq GA Ta
theorem nE:(prog.info? 111).map (·.size)=some 3:=by kernel_rfl
theorem ents_cells(l:List E):∀v∈aH l,v.oneCell'=true:=kU l
theorem ents_drop1(l:List E)(k:Nat)(rest:List Value):(aH l++rest).drop (k*3)=if k<=l.length then aH (l.drop k)++rest else rest.drop ((k-l.length)*3):=by
 split
 .rw[C9 (by rw[ax];omega),lR]
 .rename_i h;rw[List.drop_append,j8 (by rw[ax];omega),cX,ax]
  congr 1
  omega
theorem Oj(l:List E)(rest:List Value)(i:Nat)(hi:i<l.length)(z:List Value)(hz:z.length=3):
  putAt (putAt (aH l++rest) (i*3) (aH (l.drop (i+1)))) ((l.length-1)*3) z=aH (l.eraseIdx i)++(z++rest):=by
 have e1:putAt (aH l++rest) (i*3) (aH (l.drop (i+1)))=aH (l.eraseIdx i)++(aH (l.drop (l.length-1))++rest):=by
  unfold putAt;rw[qz (by rw[ax];omega),vg,ax,de,show i*3+(l.length-(i+1))*3=(l.length-1)*3 by omega,
   C9 (by rw[ax];omega),lR,<-fS,<-List.eraseIdx_eq_take_drop_succ]
 have e2:(aH (l.eraseIdx i)).length=(l.length-1)*3:=by rw[ax,List.length_eraseIdx];split<;>omega
 have e3:(aH (l.drop (l.length-1))).length=3:=by rw[ax,de];omega
 rw[e1];unfold putAt;rw[hz,<-e2,qA,cL,<-ji,rN,<-e3,rN]
theorem pW{w:World}{A:Option Addr}{n c:Nat}{l:List E}(S:aK w 111 3 (.slice A n c) n (aH l))(i:Nat)(hi:i<n)(hn:n<=100000):
  Calls prog 72 #[.slice A n c,.int .i64 (i:Nat),.int .i64 ((i:Int)+1)] w λe w'=>e=.returned (.slice A (n-1) c)/\aK w' 111 3 (.slice A (n-1) c) (n-1) (aH (l.eraseIdx i))/\ag (ah (.slice A n c)) w w':=by
 obtain⟨g,cap,rest,hv,BG,hcn,Og⟩:=S.form (by omega) (by omega);simp only[Value.slice.injEq,true_and]at hv;obtain⟨rfl,rfl⟩:=hv;have uj:c<=maxLen:=by obtain⟨_,_,_,_,h⟩:=S.rp;exact h
 have oU:l.length=n:=by have:=S.1;rw[ax]at this;omega
 have nt:=xh oU;have Qb:=xh (show rest.length=c*3-n*3 by rw[ax,oU]at Og;omega);have BD:=xh BG;clear S oU Og BG;unfold maxLen at uj;have s1:(i:Int)<=(i:Int)+1:=by omega
 have s2:(i:Int)+1<=(n:Int):=by omega
 have s3:(n:Int)<=(c:Int):=by omega
 have s4:((i:Int)+1).toNat=i+1:=by omega
 have s5:¬(i:Int)=(i:Int)+1:=by omega
 have s6:(0:Int)<=(i:Int)+1:=by omega
 have s7:(i:Int)<=(n:Int):=by omega
 have s8:(i:Int)<=(c:Int):=by omega
 have s9:(i:Int)+1<=(c:Int):=by omega
 have s10:¬c=i:=by omega
 have s12:n-(n-1)=1:=by omega
 go_enter func72,ntmps72;go_wp2_with fail;have oK:=xh (show(n-1)*3+(Value.agg #[.string ⟨#[]⟩,.string ⟨#[]⟩,.int .i64 0]).cells.toList.length<=(putAt (aH l++rest) (i*3) (aH (l.drop (i+1)))).length from by
  rw[jP (by rw[ax,de,aQ,ax,nt.o,Qb.o];omega),aQ,ax,nt.o,Qb.o];show(n-1)*3+3<=_;omega)
 have HDC:=xh (show putAt (putAt (aH l++rest) (i*3) (aH (l.drop (i+1)))) ((n-1)*3) (Value.agg #[.string ⟨#[]⟩,.string ⟨#[]⟩,.int .i64 0]).cells.toList=aH (l.eraseIdx i)++((Value.agg #[.string ⟨#[]⟩,.string ⟨#[]⟩,.int .i64 0]).cells.toList++rest)from by
  have:=Oj l rest i (by rw[nt.o];exact hi) (Value.agg #[.string ⟨#[]⟩,.string ⟨#[]⟩,.int .i64 0]).cells.toList rfl;rw[nt.o]at this;exact this)
 have AB:=xh (show(l.eraseIdx i).length=n-1 from by rw[List.length_eraseIdx,nt.o,if_pos hi]);have HRL:=xh (show(aH (l.eraseIdx i)).length+((Value.agg #[.string ⟨#[]⟩,.string ⟨#[]⟩,.int .i64 0]).cells.toList++rest).length=c*3 from by
  rw[ax,AB.o,aQ,Qb.o];show(n-1)*3+(3+(c*3-n*3))=c*3;omega)
 have HCM:=xh uj;have Ol:∀(a:Addr),(i+1<n->a=⟨g,(i+1)*3,none⟩)->∀j v,(aH (l.drop (i+1)))[j]?=some v->w.drew.cell? (a.add j)=some v:=λa ha j v hv=>by
  have hl:i+1<n:=by
   have:=(aX.1 hv).1;rw[ax,de,nt.o]at this;omega
  rw[ha hl,eP];refine(BD.o.drew.cell _).trans ?_;rw[<-lR,iT]at hv;rw[cM,bD (aX.1 hv).1,hv]
 by_cases Ea:c=i+1
 .have s11:c-(i+1)=0:=by omega
  have HN:=xh (show n=i+1 by omega)
  replace Ea:=xh Ea
  refine wp_region_held_drew (S:=λ_=>True) (by kernel_rfl) (trivial) (λaq=>?_);refine cV [(0,20),(1,21),(2,22),(3,23),(4,24),(5,25)] ?_
  iterate 6 refine bj ?_
  refine dn 6 26 λK hK=>?_;go_simp;obtain⟨w2,ea,B2,oa⟩:=Cm (P:=prog) BD.o.drew 108 108 111 3 i c ⟨g,0,none⟩ (n-(i+1)) 0 (aH (l.drop (i+1))) underlying108 nE (by rw[ax,de,nt.o]) (Ol _ (λh=>by first|rfl|(have:=HN.o;omega))) (by omega) (by rw[ax,de,nt.o];simp only[aQ,ax,nt.o];have:=Qb.o;omega) (kU _);rw[show i+(n-(i+1))=n-1 by omega]at ea;have EA:=xh ea
  have B2:=xh B2;have OA:=xh oa;clear ea oa;rw[if_pos Ea.o,EA.o];go_simp;refine aW hK (trivial) (λaq=>?_);refine cV [(7,0)] ?_
  iterate 1 refine bj ?_
  refine wpAnyH_done (by kernel_rfl) ?_ _;have B2c:=B2.o;obtain⟨w3,ec,B3,oc⟩:=Co (P:=prog) B2c 108 0 111 (.agg #[.string ⟨#[]⟩,.string ⟨#[]⟩,.int .i64 0]) ((n-1)*3) (c-(n-1)) underlying108 Tryz.zeroValue111 oK.o (by simp;decide);rw[HDC.o]at B3;have EC:=xh ec;have B3:=xh B3;have OC:=xh (OA.o.trans oc);clear ec oc B2c;go_wp2_with fail;rw[EC.o];go_wp2_with fail;go_ret
  exact aC ⟨⟨by rw[ax,AB.o],.inr ⟨g,c,_,rfl,B3.o,by rw[HRL.o],HCM.o⟩⟩,by simpa [ah]using (ag.refl [g] w).drew.trans OC.o⟩
 .have s11:¬c=i+1:=Ea;refine wp_region_held_drew (S:=λ_=>True) (by kernel_rfl) (trivial) (λaq=>?_);refine cV [(0,20),(1,21),(2,22),(3,23),(4,24),(5,25)] ?_
  iterate 6 refine bj ?_
  refine dn 6 26 λK hK=>?_;go_simp;obtain⟨w2,ea,B2,oa⟩:=Cm (P:=prog) BD.o.drew 108 108 111 3 i c ⟨g,(i+1)*3,none⟩ (n-(i+1)) (c-(i+1)) (aH (l.drop (i+1))) underlying108 nE (by rw[ax,de,nt.o]) (Ol _ (λh=>by first|rfl|(have:=HN.o;omega))) (by omega) (by rw[ax,de,nt.o];simp only[aQ,ax,nt.o];have:=Qb.o;omega) (kU _);rw[show i+(n-(i+1))=n-1 by omega]at ea
  have EA:=xh ea;have B2:=xh B2;have OA:=xh oa;clear ea oa;rw[EA.o];go_simp;refine aW hK (trivial) (λaq=>?_);refine cV [(7,0)] ?_
  iterate 1 refine bj ?_
  refine wpAnyH_done (by kernel_rfl) ?_ _;have B2c:=B2.o;obtain⟨w3,ec,B3,oc⟩:=Co (P:=prog) B2c 108 0 111 (.agg #[.string ⟨#[]⟩,.string ⟨#[]⟩,.int .i64 0]) ((n-1)*3) (c-(n-1)) underlying108 Tryz.zeroValue111 oK.o (by simp;decide);rw[HDC.o]at B3;have EC:=xh ec;have B3:=xh B3;have OC:=xh (OA.o.trans oc);clear ec oc B2c;go_wp2_with fail;rw[EC.o];go_wp2_with fail;go_ret
  exact aC ⟨⟨by rw[ax,AB.o],.inr ⟨g,c,_,rfl,B3.o,by rw[HRL.o],HCM.o⟩⟩,by simpa [ah]using (ag.refl [g] w).drew.trans OC.o⟩
theorem qY:(prog.info? 111).map (λi=>(i.zero,i.size,i.bytes))=some (some (.agg #[.string ⟨#[]⟩,.string ⟨#[]⟩,.int .i64 0]),3,40):=by kernel_rfl
theorem vk(e:E):∀v∈e.cells,v.oneCell'=true:=λv hv=>by
 have:=kU [e] v (by simpa [aH]using hv);exact this
theorem xP{α:Type}(e:α):∀(l:List α) (i:Nat),i<=l.length->l.insertIdx i e=l.take i++e::l.drop i
 |_,0,_=>by simp
 |[],i+1,h=>absurd h (by simp)
 |a::l,i+1,h=>by
  rw[ID,xP e l i (by simpa using h)];rfl
theorem Tb(l:List E)(e:E)(rest:List Value)(i:Nat)(hi:i<=l.length)(hr:3<=rest.length):
  putAt (putAt (aH l++rest) ((i+1)*3) (aH (l.drop i))) (i*3) e.cells=aH (l.insertIdx i e)++rest.drop 3:=by
 have e0:e.cells.length=3:=rfl;have e1:l.insertIdx i e=l.take i++e::l.drop i:=xP e l i hi;have e2:(aH (l.take i)).length=i*3:=by rw[ax,bK];omega
 have e3:(aH (l.drop i)).length=(l.length-i)*3:=by rw[ax,de]
 have e5:(aH l++rest)=aH (l.take i)++(aH (l.drop i)++rest):=by rw[<-cL,<-fS,mI]
 have hlen:(aH l++rest).length=l.length*3+rest.length:=by rw[aQ,ax]
 have a1:(putAt (aH l++rest) ((i+1)*3) (aH (l.drop i))).take (i*3)=aH (l.take i):=by
  unfold putAt;rw[cL,qz (by rw[bK,hlen];omega),List.take_take,xr (by omega),e5,<-e2,qA]
 have a2:(putAt (aH l++rest) ((i+1)*3) (aH (l.drop i))).drop (i*3+3)=aH (l.drop i)++rest.drop 3:=by
  unfold putAt;rw[cL,show i*3+3=((aH l++rest).take ((i+1)*3)).length by rw[bK,hlen];omega,rN]
  congr 1
  rw[e3,List.drop_append,j8 (by rw[ax];omega),cX,ax]
  congr 1
  omega
 rw[e1,fS,kl,cL,cL,<-a1,<-a2,show putAt (putAt (aH l++rest) ((i+1)*3) (aH (l.drop i))) (i*3) e.cells=(putAt (aH l++rest) ((i+1)*3) (aH (l.drop i))).take (i*3)++e.cells++(putAt (aH l++rest) ((i+1)*3) (aH (l.drop i))).drop (i*3+e.cells.length)from rfl,e0,cL]
theorem GB{w:World}{A:Option Addr}{n c:Nat}{l:List E}(S:aK w 111 3 (.slice A n c) n (aH l))(e:E){g2 cc:Nat}(B2:aE w g2 111 e.cells.toArray)(hn:n<=100000):
  Calls prog 74 #[.slice A n c,.int .i64 (n:Nat),.slice (some ⟨g2,0,none⟩) 1 cc] w λr w'=> ∃A' c',r=.returned (.slice A' (n+1) c')/\aK w' 111 3 (.slice A' (n+1) c') (n+1) (aH (l++[e]))/\ag (ah (.slice A n c)) w w'/\∀x∈ah (.slice A' (n+1) c'),x∈ah (.slice A n c)\/w.heap.size<=x:=by
 obtain⟨i0,hi,ke,iX,jF⟩:=info_parts qY;have hl:=S.1;rw[ax]at hl;obtain⟨v',w',ea,S2,o2,f2⟩:=di (P:=prog) S 108 108 i0 _ 40 underlying108 hi ke iX jF rfl (by omega) ⟨g2,0,none⟩ 1 cc e.cells rfl (bn (l:=e.cells) B2 0 _ (by simp)) (vk e) (by unfold maxLen;omega) (by omega);obtain⟨A',c',rfl⟩:=ao S2;have EA:=xh (show df prog 108 108 w (.slice A n c) (.slice (some ⟨g2,0,none⟩) 1 cc)=_ from ea);have S2:=xh S2
 have o2:=xh o2;have f2:=xh f2;have HC:A=none/\n=0/\c=0\/∃g,A=some ⟨g,0,none⟩/\n<=c/\c<=maxLen:=by
  rcases S.2 with⟨h1,h2⟩|⟨g,cap,rest,h1,h2,h3,h4⟩
  .injection h1 with a1 a2 a3
   exact .inl ⟨a1,a2,a3⟩
  .injection h1 with a1 a2 a3
   subst a3;refine .inr ⟨g,a1,?_,h4⟩;rw[ax]at h3;omega
 have s1:(n:Int)<=(n:Int):=by omega
 clear S B2 ea hi ke iX jF;have HC:A=none/\n=0/\c=0\/(∃g,A=some ⟨g,0,none⟩/\c=n/\c<=maxLen)\/∃g,A=some ⟨g,0,none⟩/\¬c=n/\n<=c/\c<=maxLen:=by
  rcases HC with h|⟨g,h1,h2,h3⟩
  .exact .inl h
  .by_cases hc:c=n
   .exact .inr (.inl ⟨g,h1,hc,h3⟩)
   .exact .inr (.inr ⟨g,h1,hc,h2,h3⟩)
 rcases HC with⟨rfl,rfl,rfl⟩|⟨g,rfl,rfl,hc2⟩|⟨g,rfl,hc0,Ea,hc2⟩
 all_goals
  (try have hc1I:(n:Int)<=(c:Int):=by omega)
  go_enter func74,ntmps74;go_wp2_with fail;rw[EA.o];go_wp2_with fail;go_ret;exact⟨A',c',by first|rfl|simp,by rw[fS];simpa [aH]using S2.o,o2.o,f2.o⟩
theorem Cp{w:World}{g:Nat}{t:TypeId}{cs:Array Value}(B:aE w g t cs):w.shape? g=some (t,cs.size):=by
 obtain⟨lo,hi,h,_⟩:=B;unfold World.shape?;rw[h]
theorem sz_ent(w:World):(Go.sizeOf 111).run prog w=.ok 3 w:=by
 obtain⟨i0,hi,ke,iX,jF⟩:=info_parts qY;simp[sizeOf,typeInfo,hi,iX]
theorem GC{w:World}{g1 g2:Nat}{t1 t2:TypeId}{c1 c2:Array Value}(B1:aE w g1 t1 c1)(B2:aE w g2 t2 c2)(eV:g1≠g2)(h0:c2.size≠0)(hc:c1.size≠0)(hz:w.frozen? ⟨g1,c1.size,none⟩=false)(o2 la ca lb cb:Nat):
  (callFunc 125 #[.slice (some ⟨g1,0,none⟩) la ca,.slice (some ⟨g2,o2,none⟩) lb cb]).run prog w=.ok (.value (.bool false)) w:=by
 rw[run_callFunc_extern func125 (by kernel_rfl) (by kernel_rfl) (by kernel_rfl) (e:=Extern.SlicesOverlaps.overlaps #[108,108] #[4]) (by kernel_rfl),
  Lib.run_overlaps_apart w 108 4 111 underlying108 3 sz_ent ⟨g1,0,none⟩ ⟨g2,o2,none⟩ la ca lb cb eV t1 t2 c1.size c2.size (Cp B1) (Cp B2) h0 (B1.frozen 0 (by omega)) hz]
 rfl
theorem Ey{w:World}{A:Option Addr}{n c:Nat}{l:List E}(S:aK w 111 3 (.slice A n c) n (aH l))(e:E){g2 cc:Nat}(B2:aE w g2 111 e.cells.toArray)(hn:n<=100000)(hg:g2∉ah (.slice A n c))(i:Nat)(hi:i<n)(hf:w.frozen? ⟨g2,3,none⟩=false)(hc:n+1<=c):
  Calls prog 74 #[.slice A n c,.int .i64 (i:Nat),.slice (some ⟨g2,0,none⟩) 1 cc] w λr w'=> ∃A' c',r=.returned (.slice A' (n+1) c')/\aK w' 111 3 (.slice A' (n+1) c') (n+1) (aH (l.insertIdx i e))/\ag (ah (.slice A n c)) w w'/\∀x∈ah (.slice A' (n+1) c'),x∈ah (.slice A n c)\/w.heap.size<=x:=by
 obtain⟨g,cap,rest,hv,BG,hcn,Og⟩:=S.form (by omega) (by omega);simp only[Value.slice.injEq,true_and]at hv;obtain⟨rfl,rfl⟩:=hv;have uj:c<=maxLen:=by obtain⟨_,_,_,_,h⟩:=S.rp;exact h
 have oU:l.length=n:=by have:=S.1;rw[ax]at this;omega
 have nt:=xh oU;have Qb:=xh (show rest.length=c*3-n*3 by rw[ax,oU]at Og;omega);have BD:=xh BG;have BE:=xh B2;have eV:g2≠g:=λh=>hg (by simp[ah,h]);have HCM:=xh uj;have AB:=xh (show(l.insertIdx i e).length=n+1 from by rw[yc,oU,if_pos (by omega)]);unfold maxLen at uj;clear S oU Og;have s1:¬(i:Int)=(n:Int):=by omega
 have s2:(i:Int)<=(n:Int):=by omega
 have s3:(i:Int)<=(c:Int):=by omega
 have s4:¬c=i:=by omega
 have s8:IntKind.i64.wrap ((i:Int)+1)=(i:Int)+1:=IntWalk.i64_in _ (by omega);have s9:IntKind.i64.wrap ((n:Int)+1)=(n:Int)+1:=IntWalk.i64_in _ (by omega);have s10:((i:Int)+1).toNat=i+1:=by omega
 have s11:((n:Int)+1).toNat=n+1:=by omega
 have s12:(0:Int)<=(i:Int)+1:=by omega
 have s13:(0:Int)<=(n:Int)+1:=by omega
 have s14:(i:Int)+1<=(n:Int)+1:=by omega
 have s15:(i:Int)<=(n:Int)+1:=by omega
 have Ol:=xh (show ∀j v,(aH (l.drop i))[j]?=some v->w.drew.cell? ((⟨g,i*3,none⟩:Addr).add j)=some v from λj v hv=>by
  rw[eP];refine(BD.o.drew.cell _).trans ?_;rw[<-lR,iT]at hv;rw[cM,bD (aX.1 hv).1,hv])
 have hov:=λla ca lb cb=>GC (w:=w) B2 BG eV (by simp[ax];have:=nt.o;omega) (by show 3≠0;decide) (by rw[show e.cells.toArray.size=3 from rfl];exact hf) ((i+1)*3) la ca lb cb;have s16:(n:Int)+1<=(c:Int):=by omega
 have s17:¬(c:Int)<(n:Int)+1:=by omega
 have s18:¬c=i+1:=by omega
 have s19:(i:Int)+1<=(c:Int):=by omega
 clear B2 BG hf hg;go_enter func74,ntmps74;go_wp2_with (simp only[hov]);refine wp_region_held_drew (S:=λ_=>True) (by kernel_rfl) (trivial) (λaq=>?_);refine cV [(0,69),(1,70),(2,71),(3,72),(4,73),(5,74),(6,75),(7,76)] ?_
 iterate 8 refine bj ?_
 refine dn 8 77 λK hK=>?_;go_simp;obtain⟨w2,ea,B3,oa⟩:=tU (P:=prog) BD.o.drew 108 3 111 3 ((i+1)*3) (n-i) (c-(i+1)) ⟨g,i*3,none⟩ (n+1-i) (c-i) (aH (l.drop i)) underlying108 nE (by rw[ax,de,nt.o,show Nat.min (n+1-i) (n-i)=n-i from by simp only[Nat.min_def];split<;>omega]) Ol.o (by rw[ax,de,aQ,ax,nt.o,Qb.o];omega) (kU _);have EA:=xh ea;have B3:=xh B3
 have OA:=xh oa;clear ea oa;rw[EA.o];go_simp;refine aW hK (trivial) (λaq=>?_);refine wpAnyH_done (by kernel_rfl) ?_ _;have BE3:=BE.o.drew.only OA.o (by simpa using eV)
 obtain⟨w3,eb,B4,ob⟩:=tU (P:=prog) B3.o 108 3 111 3 (i*3) (n+1-i) (c-i) ⟨g2,0,none⟩ 1 cc e.cells underlying108 nE (by show 3=_;rw[show Nat.min 1 (n+1-i)=1 from by simp only[Nat.min_def];split<;>omega]) (bn (l:=e.cells) BE3 0 _ (by simp)) (by rw[jP (by rw[ax,de,aQ,ax,nt.o,Qb.o];omega),aQ,ax,nt.o,Qb.o];show i*3+3<=_;omega) (vk e)
 rw[Tb l e rest i (by rw[nt.o];omega) (by rw[Qb.o];omega)]at B4;have EB:=xh eb;have B4:=xh B4;have OB:=xh (OA.o.trans ob);clear eb ob BE3;go_wp2_with fail;rw[EB.o];go_wp2_with fail;go_ret;exact⟨_,_,by first|rfl|simp,⟨by rw[ax,AB.o],.inr ⟨g,c,_,rfl,B4.o,by rw[ax,AB.o,de,Qb.o];omega,HCM.o⟩⟩,by simpa [ah]using (ag.refl [g] w).drew.trans OB.o,λx hx=> .inl (by simpa [ah]using hx)⟩
noncomputable def Ez(P:Program)(T U ty:TypeId)(w:World)(s x:Value):Result Value:=(Builtin.append_ #[T,U] ty #[s,x]).run P w
theorem Om(P:Program)(ρ:Operand->Value)(dst:Option Tmp)(s x:Operand)(T U t:TypeId)(p:String)(af:Array Edge)(g:Option (Nat×Bool))(w:World):
  (execOp ρ {dst:=dst,op:= .call {callee:= .builtin .append,args:= #[s,x],argTypes:= #[T,U]},type:=t,pos:=p,after:=af,guard:=g}).run P w=(Ez P T U t w (ρ s) (ρ x)).andThen λv w'=> .ok (.value v) w':=by
 simp[execOp,resolve,invoke,builtin,Ez]
theorem GF{w:World}{g c:Nat}{l:List E}{rest:List Value}(B:aE w g 111 (aH l++rest).toArray)(i k:Nat)(hi:i<=l.length)(hk:0<k)(hc:c<i+k)(hm:i+k<=1000000):
  ∃w' G zs,Ez prog 108 3 108 w (.slice (some ⟨g,0,none⟩) i c) (.int .i64 (k:Nat))= .ok (.slice (some ⟨w.heap.size,0,none⟩) (i+k) G) w'/\aE w' w.heap.size 111 (aH (l.take i)++zs).toArray/\zs.length=(G-i)*3/\i+k<=G/\G<=maxLen/\Below w.heap.size w w':=by
 obtain⟨i0,E9,ke,iX,jF⟩:=info_parts qY;have hold:(Builtin.firstCells i0.size i (.slice (some ⟨g,0,none⟩) i c)).run prog w.drew=.ok (aH (l.take i)).toArray w.drew:=by
  rw[iX];exact run_firstCells_some w.drew 3 i ⟨g,0,none⟩ i c (aH (l.take i)) (by rw[ax,bK];omega) (bn B.drew 0 _ (λj v hv=>by
   rw[bh,bD]
   .rw[<-vg,ya]at hv
    split at hv
    .exact hv
    .cases hv
   .have:=(aX.1 hv).1;rw[ax,bK]at this;rw[ax];omega))
 have h:=Lib.run_append_grow_zeros w 108 3 108 111 i0 _ .i64 .i64 underlying108 underlying3 E9 ke (some ⟨g,0,none⟩) i c (aH (l.take i)) hold k hk (by omega) hc (by omega) (by rw[jF];omega) (by rw[jF];exact growslice_fits (by omega) (by omega));have hG:=grownCap_ge w (i+k) c 111;have hG2:=grownCap_le_maxLen w (i+k) c 111 (by unfold maxLen;omega);have hzc:∀m,(Builtin.zeroCells (Value.agg #[.string ⟨#[]⟩,.string ⟨#[]⟩,.int .i64 0]).cells m).size=m*3:=λm=>by
  simp[Builtin.zeroCells,Value.cells]
 generalize grownCap w (i+k) c 111=G at *;have hA:∀(a b:Array Value),(aH (l.take i)).toArray++a++b=(aH (l.take i)++(a.toList++b.toList)).toArray:=λa b=>by
  apply nh.1;simp
 rw[hA]at h;have hzl:((Builtin.zeroCells (Value.agg #[.string ⟨#[]⟩,.string ⟨#[]⟩,.int .i64 0]).cells k).toList++(Builtin.zeroCells (Value.agg #[.string ⟨#[]⟩,.string ⟨#[]⟩,.int .i64 0]).cells (G-(i+k))).toList).length=(G-i)*3:=by
  rw[aQ,Qj,Qj,hzc,hzc];omega
 generalize (Builtin.zeroCells (Value.agg #[.string ⟨#[]⟩,.string ⟨#[]⟩,.int .i64 0]).cells k).toList++(Builtin.zeroCells (Value.agg #[.string ⟨#[]⟩,.string ⟨#[]⟩,.int .i64 0]).cells (G-(i+k))).toList=ZS at *;refine⟨_,G,ZS,h,?_,hzl,hG,hG2,?_⟩
 .exact aE.new w.drew 111 _
 .exact(Below.refl w.heap.size w).drew.alloc (aj _) _
theorem Tc(l:List E)(e:E)(zs:List Value)(i:Nat)(hi:i<l.length)(hz:(l.length+1-i)*3<=zs.length):
  putAt (putAt (aH (l.take i)++zs) (i*3) e.cells) ((i+1)*3) (aH (l.drop i))=aH (l.insertIdx i e)++zs.drop ((l.length+1-i)*3):=by
 have e0:e.cells.length=3:=rfl;have e2:(aH (l.take i)).length=i*3:=by rw[ax,bK];omega
 have e3:(aH (l.drop i)).length=(l.length-i)*3:=by rw[ax,de]
 have a1:putAt (aH (l.take i)++zs) (i*3) e.cells=(aH (l.take i)++e.cells)++zs.drop 3:=by
  unfold putAt;rw[<-e2,qA,e0,<-ji,rN]
 have a2:(aH (l.take i)++e.cells).length=(i+1)*3:=by rw[aQ,e2,e0];omega
 rw[a1,xP e l i (by omega),fS,kl];have e4:zs.drop ((l.length+1-i)*3)=(zs.drop 3).drop ((l.length-i)*3):=by rw[ji];congr 1;omega
 unfold putAt;rw[<-a2,qA,<-ji,rN,e3,e4];simp only[cL]
end
section
attribute [local go_sem ↓] Go.wp_at_zero Go.wp_at_succ Om GA Ta
theorem ED{w:World}{A:Option Addr}{n c:Nat}{l:List E}(S:aK w 111 3 (.slice A n c) n (aH l))(e:E){g2 cc:Nat}(B2:aE w g2 111 e.cells.toArray)(hn:n<=100000)(hg:g2∉ah (.slice A n c))(i:Nat)(hi:i<n)(hc:c<n+1):
  Calls prog 74 #[.slice A n c,.int .i64 (i:Nat),.slice (some ⟨g2,0,none⟩) 1 cc] w λr w'=> ∃A' c',r=.returned (.slice A' (n+1) c')/\aK w' 111 3 (.slice A' (n+1) c') (n+1) (aH (l.insertIdx i e))/\ag (ah (.slice A n c)) w w'/\∀x∈ah (.slice A' (n+1) c'),x∈ah (.slice A n c)\/w.heap.size<=x:=by
 obtain⟨g,cap,rest,hv,BG,hcn,Og⟩:=S.form (by omega) (by omega);simp only[Value.slice.injEq,true_and]at hv;obtain⟨rfl,rfl⟩:=hv;have uj:c<=maxLen:=by obtain⟨_,_,_,_,h⟩:=S.rp;exact h
 have oU:l.length=n:=by have:=S.1;rw[ax]at this;omega
 have nt:=xh oU;have Qb:=xh (show rest.length=c*3-n*3 by rw[ax,oU]at Og;omega);have BD:=xh BG;have BE:=xh B2;have eV:g2≠g:=λh=>hg (by simp[ah,h]);have HCM:=xh uj;have AB:=xh (show(l.insertIdx i e).length=n+1 from by rw[yc,oU,if_pos (by omega)]);unfold maxLen at uj;clear S oU Og;have s1:¬(i:Int)=(n:Int):=by omega
 have s2:(i:Int)<=(n:Int):=by omega
 have s3:(i:Int)<=(c:Int):=by omega
 have s4:¬c=i:=by omega
 have s8:IntKind.i64.wrap ((i:Int)+1)=(i:Int)+1:=IntWalk.i64_in _ (by omega);have s9:IntKind.i64.wrap ((n:Int)+1)=(n:Int)+1:=IntWalk.i64_in _ (by omega);have s10:((i:Int)+1).toNat=i+1:=by omega
 have s11:((n:Int)+1).toNat=n+1:=by omega
 have s12:(0:Int)<=(i:Int)+1:=by omega
 have s13:(0:Int)<=(n:Int)+1:=by omega
 have s14:(i:Int)+1<=(n:Int)+1:=by omega
 have s15:(i:Int)<=(n:Int)+1:=by omega
 have Ol:=xh (show ∀W,aE W g 111 (aH l++rest).toArray->∀j v,(aH (l.drop i))[j]?=some v->W.cell? ((⟨g,i*3,none⟩:Addr).add j)=some v from λW BW j v hv=>by
  rw[eP];refine(BW.cell _).trans ?_;rw[<-lR,iT]at hv;rw[cM,bD (aX.1 hv).1,hv])
 obtain⟨w2,G,zs,ea,B3,hz,hG,hG2,bS⟩:=GF (c:=c) BG i (n+1-i) (by rw[nt.o];omega) (by omega) (by omega) (by omega);rw[show i+(n+1-i)=n+1 by omega]at ea hG;have EA:=xh ea;have B3:=xh B3;have HZ:=xh hz;have JV:=xh bS;have BE2:=xh (BE.o.below bS BE.o.lt);have BG2:=xh (BD.o.below bS BD.o.lt);have HGW:=xh (show g<w.heap.size/\g2<w.heap.size from⟨BD.o.lt,BE.o.lt⟩);have s17:(c:Int)<(n:Int)+1:=by omega
 have s20:(n:Int)+1-(i:Int)=((n+1-i:Nat):Int):=by omega
 have s21:IntKind.i64.wrap (((n+1-i:Nat):Int))=((n+1-i:Nat):Int):=IntWalk.i64_in _ (by omega);have s22:¬G=i:=by omega
 have s23:¬G=i+1:=by omega
 have s24:(n:Int)+1<=(G:Int):=by omega
 have s25:(i:Int)<=(G:Int):=by omega
 have s26:(i:Int)+1<=(G:Int):=by omega
 unfold maxLen at hG2;have HG2:=xh hG2;clear B2 BG hg ea hz bS;go_enter func74,ntmps74;go_wp2_with fail;rw[EA.o]
 obtain⟨w3,eb,B4,oa⟩:=tU (P:=prog) B3.o 108 3 111 3 (i*3) (n+1-i) (G-i) ⟨g2,0,none⟩ 1 cc e.cells underlying108 nE (by show 3=_;rw[show Nat.min 1 (n+1-i)=1 from by simp only[Nat.min_def];split<;>omega]) (bn (l:=e.cells) BE2.o 0 _ (by simp)) (by rw[aQ,ax,bK,nt.o,HZ.o];show i*3+3<=_;omega) (vk e);have EB:=xh eb;have B4:=xh B4;have HBG:=xh (BG2.o.only oa (by simp;have:=HGW.o;omega))
 have OA:=xh oa;have HFT:=xh (show(i+1)*3+(aH (l.drop i)).length<=(putAt (aH (l.take i)++zs) (i*3) e.cells).length from by
  rw[jP (by rw[aQ,ax,bK,nt.o,HZ.o];show i*3+3<=_;omega),aQ,ax,ax,bK,de,nt.o,HZ.o];omega)
 clear eb oa;go_wp2_with fail;rw[EB.o];go_wp2_with fail;refine wp_region_held_drew (S:=λ_=>True) (by kernel_rfl) (trivial) (λaq=>?_);refine cV [(0,46),(1,47),(2,48),(3,49),(4,50),(5,51),(6,52),(7,53)] ?_
 iterate 8 refine bj ?_
 refine dn 8 54 λK hK=>?_;go_simp;obtain⟨w4,eb,B5,ob⟩:=tU (P:=prog) B4.o.drew 108 3 111 3 ((i+1)*3) (n-i) (G-(i+1)) ⟨g,i*3,none⟩ (n-i) (c-i) (aH (l.drop i)) underlying108 nE (by rw[ax,de,nt.o,show Nat.min (n-i) (n-i)=n-i from Nat.min_self _]) (Ol.o _ HBG.o.drew) HFT.o (kU _);have EB:=xh eb;have B5:=xh B5;have OB:=xh ob;clear eb ob;rw[EB.o];go_simp;refine aW hK (trivial) (λaq=>?_)
 refine wpAnyH_done (by kernel_rfl) ?_ _;have B6:=B5.o;rw[Tc l e zs i (by rw[nt.o];omega) (by rw[nt.o,HZ.o];omega)]at B6;have B6:=xh B6;have OC:=xh (JV.o.mono (aj _));go_wp2_with fail;go_ret;refine⟨_,_,by first|rfl|simp,⟨by rw[ax,AB.o],.inr ⟨w.heap.size,G,_,rfl,B6.o,by rw[ax,AB.o,de,HZ.o,nt.o];omega,HG2.o⟩⟩,?_,λx hx=> .inr (by simp[ah]at hx;omega)⟩
 have o4:=((ag.refl [w.heap.size] w3).drew).trans OB.o;exact((ag.ai (S:=[]) JV.o).aN (OA.o.trans o4) (λx hx dV=>by simp at hx;omega)).mono (λx hx _=>by simp at hx)
end
attribute [local go_sem ↓] Go.wp_at_zero Go.wp_at_succ bq GA Ta
theorem pX{w:World}{A:Option Addr}{n c:Nat}{l:List E}(S:aK w 111 3 (.slice A n c) n (aH l))(e:E){g2 cc:Nat}(B2:aE w g2 111 e.cells.toArray)(hn:n<=100000)(hg:g2∉ah (.slice A n c))(i:Nat)(hi:i<=n)(hf:w.frozen? ⟨g2,3,none⟩=false):
  Calls prog 74 #[.slice A n c,.int .i64 (i:Nat),.slice (some ⟨g2,0,none⟩) 1 cc] w λr w'=> ∃A' c',r=.returned (.slice A' (n+1) c')/\aK w' 111 3 (.slice A' (n+1) c') (n+1) (aH (l.insertIdx i e))/\ag (ah (.slice A n c)) w w'/\∀x∈ah (.slice A' (n+1) c'),x∈ah (.slice A n c)\/w.heap.size<=x:=by
 have hl:=S.1;rw[ax]at hl
 rcases eT i n with h|h
 .rcases eT c (n+1)with h1|h1
  .exact ED S e B2 hn hg i h h1
  .exact Ey S e B2 hn hg i h hf h1
 .obtain rfl:i=n:=by omega
  have:=GB S e (cc:=cc) B2 hn
  rwa [show l++[e]=l.insertIdx i e from by rw[xP e l i (by omega),bY (by omega),j8 (by omega)]]at this
theorem J5{w:World}{A:Option Addr}{n c:Nat}{l:List E}(S:aK w 111 3 (.slice A n c) n (aH l))(hn:n<=100000)(h0:0<n):
  Calls prog 217 #[.slice A n c] w λr w'=> ∃g c',r=.returned (.slice (some ⟨g,0,none⟩) n c')/\aK w' 111 3 (.slice (some ⟨g,0,none⟩) n c') n (aH l)/\Below w.heap.size w w'/\w.heap.size<=g:=by
 obtain⟨g,cap,rest,hv,BG,hcn,Og⟩:=S.form h0 (by omega);simp only[Value.slice.injEq,true_and]at hv;obtain⟨rfl,rfl⟩:=hv;obtain⟨i0,hi,ke,iX,jF⟩:=info_parts qY;have hl:=S.1;rw[ax]at hl;have BN:=aE.new w 111 #[];have S0:aK (w.alloc (.cells #[] 111)) 111 3 (.slice (some ⟨w.heap.size,0,none⟩) 0 0) 0 []:=⟨rfl,.inr ⟨w.heap.size,0,[],rfl,BN,rfl,by unfold maxLen;omega⟩⟩;have BG2:=BG.alloc (.cells #[] 111)
 obtain⟨v',w',ea,S2,o2,f2⟩:=di (P:=prog) S0 108 108 i0 _ 40 underlying108 hi ke iX jF rfl (by omega) ⟨g,0,none⟩ n c (aH l) (by rw[ax];exact hl) (bn BG2 0 _ (λj v hj=>by rw[bh,bD (aX.1 hj).1];exact hj)) (kU l) (by unfold maxLen;omega) (by omega);rw[cX,bh]at S2;obtain⟨gg,cc,_,rfl,_,_⟩:=S2.form h0 (by omega)
 have EA:=xh (show df prog 108 108 (w.alloc (.cells #[] 111)) (.slice (some ⟨w.heap.size,0,none⟩) 0 0) (.slice (some ⟨g,0,none⟩) n c)=_ from ea);have NX:w.heap.size<=gg:=by
  rcases f2 gg (by simp[ah])with h|h
  .simp[ah]at h;omega
  .simp at h;omega
 have hb:Below w.heap.size w w':=((Below.refl w.heap.size w).alloc (aj _) _).trans (o2.aO (by simp) (λx hx=>by simp[ah]at hx;omega));have S2:=xh S2;have hb:=xh hb;have NX:=xh NX;have HE:=Lib.run_eql_slice_nil (P:=prog) w 108 111 (some ⟨g,0,none⟩) n c 0 0 underlying108;clear BG BG2 BN S0 S ea o2 f2 hi ke iX jF hl Og;go_enter func217,ntmps217;go_wp2_with fail;rw[EA.o];go_wp2_with fail;go_ret
 exact⟨gg,cc,by first|rfl|simp,S2.o,hb.o,NX.o⟩
end Nd
end
namespace Sh
open Go.RowKit Pk Dk Pg
open Nd (E aH bt aV aZ dD)
attribute [local go_sem ↓] Go.wp_at_zero Go.wp_at_succ
variable{K' tb n K:Nat}{w:World}{I:Ix}{F:List Nat}
def xg(e:Int):Int:=if e=3\/e=6 then 14 else e
def QS.bM(q:QS)(p:Int):QS×Bool×List E×Int:=
 if(q.dF p).2.2≠0 then((q.dF p).1,false,[],xg (q.dF p).2.2)
 else((q.dF p).1,(aV (q.dF p).2.1.data.toList).1,(aV (q.dF p).2.1.data.toList).2.1,xg (aV (q.dF p).2.1.data.toList).2.2)
def blank(leaf:Bool)(l:List E):List E:=match leaf,l with
 |false,e::r=>{e with key:=⟨#[]⟩}::r
 |_,l=>l
def cf(leaf:Bool)(l:List E):List UInt8×Int:=aZ leaf (blank leaf l)
def QS.cK(q:QS)(p:Int)(leaf:Bool)(l:List E):QS×Int:=if(cf leaf l).2≠0 then(q,(cf leaf l).2)else q.dv p ⟨(cf leaf l).1.toArray⟩
def QS.eg(q:QS)(leaf:Bool)(l:List E):QS×Int×Int:=if(cf leaf l).2≠0 then(q,0,(cf leaf l).2)else q.bP (cf leaf l).1
def tp(b:Nat):Value:= .pointer (some ⟨b,0,none⟩)
def TQ(w:World)(tb:Nat)(I:Ix)(F:List Nat)(q:QS)(n K:Nat):Prop:=aE w tb 130 #[pp I.pb]/\PQ w I F q n K
section
variable{w w':World}{tb:Nat}{I:Ix}{F S:List Nat}{q q':QS}{n K:Nat}
theorem TQ.ne(h:TQ w tb I F q n K):tb∉F:=h.2.fR h.1
theorem TQ.below(h:TQ w tb I F q n K)(hb:Below w.heap.size w w'):TQ w' tb I F q n K:=⟨h.1.below hb h.1.lt,h.2.below hb⟩
theorem TQ.only(h:TQ w tb I F q n K)(o:ag S w w')(hd:∀g∈tb::F,g∉S):TQ w' tb I F q n K:=⟨h.1.only o (hd _ (gy ..)),h.2.only o (λg hg=>hd g (bz _ hg))⟩
theorem TQ.lt(h:TQ w tb I F q n K):∀g∈tb::F,g<w.heap.size:=λg hg=>(ar.1 hg).elim (λe=>by rw[e];exact h.1.lt) (h.2.lt g)
theorem TQ.le(h:TQ w tb I F q n K)(hk:K<=K'):TQ w tb I F q n K':=⟨h.1,h.2.le hk⟩
theorem TQ.next(h:TQ w tb I F q n K)(o:ag F w w')(p:PQ w' I F q' n K'):TQ w' tb I F q' n K':=⟨h.1.only o h.ne,p⟩
end
theorem lD(l:List E):(aH l).length=l.length*3:=Nd.ax l
theorem zx(e:Int)(w:World):Calls prog 112 #[.int .i64 e] w λr w'=>r=.returned (.int .i64 (xg e))/\w=w':=by
 unfold xg
 by_cases h3:e=3
 .subst h3;go_enter func112,ntmps112;go_wp2_with fail;go_ret;exact aC rfl
 .have q3:(e==3)=false:=by rw[beq_eq_false_iff_ne];exact h3
  by_cases h6:e=6
  .subst h6;go_enter func112,ntmps112;go_wp2_with fail;go_ret;exact aC rfl
  .have q6:(e==6)=false:=by rw[beq_eq_false_iff_ne];exact h6
   rw[if_neg (by omega)];go_enter func112,ntmps112;go_wp2_with fail;go_ret;exact aC rfl
theorem EE{g:Nat}{b b':Bool}{v v':Value}(B:aE w g 118 #[.bool b,v]):
  aE ((w.setCell ⟨g,0,none⟩ (.bool b')).setCell ⟨g,1,none⟩ v') g 118 #[.bool b',v']/\ag [g] w ((w.setCell ⟨g,0,none⟩ (.bool b')).setCell ⟨g,1,none⟩ v')/\
   w.cell? ⟨g,0,none⟩=some (.bool b)/\w.cell? ⟨g,1,none⟩=some v/\w.frozen? ⟨g,0,none⟩=false/\w.frozen? ⟨g,1,none⟩=false:=
 ⟨(B.bG 0 _).bG 1 _,((ag.refl _ _).setCell (by simp) _).setCell (by simp) _,B.ab rfl,B.ab rfl,B.frozen 0 (by simp),B.frozen 1 (by simp)⟩
theorem nF{q:QS}(h:TQ w tb I F q n K)(hK:K<=999999999999)(p:Int):
  Calls prog 70 #[tp tb,.int .i64 p] w λe w'=> ∃A c,e=.returned (.tuple #[bt (q.bM p).2.1 A (q.bM p).2.2.1.length c,.int .i64 (q.bM p).2.2.2])/\
   aK w' 111 3 (.slice A (q.bM p).2.2.1.length c) (q.bM p).2.2.1.length (aH (q.bM p).2.2.1)/\(∀g∈ah (.slice A (q.bM p).2.2.1.length c),w.heap.size<=g)/\PQ w' I F (q.bM p).1 n (K+1)/\ag F w w':=by
 have O0:=xh (ae (Below.refl w.heap.size w) (.cells #[.bool false,.slice none 0 0] 118));have B0:=xh (aE.new w 118 #[.bool false,.slice none 0 0]);have T0:=h.below O0.o;have p0:=T0.1.ab (i:=0) rfl;have NQ:=xh (show w.heap.size∉F from λhm=>by have:=h.2.lt _ hm;omega);have KG:=xh (tJ T0.2 hK p);have KB:=xh zx;have hgs:=λh0=>pM h.2.wp (p:=p) h0;unfold QS.bM;generalize q.dF p=R at *;obtain⟨q1,s,er⟩:=R;dsimp only at *
 clear h T0;unfold pp tp bt at *
 by_cases he:er=0
 .subst he;have hs:=hgs rfl;rw[if_neg (by simp)];have KN:=xh (λ(W:World)=>Nd.SW s W (by omega));generalize aV s.data.toList=G at *;obtain⟨leaf,l,er⟩:=G;dsimp only at *;unfold bt at *;clear hgs hs;go_enter func70,ntmps70;go_wp2_with fail;refine KG.o.mono ?_;rintro e w1 ⟨rfl,P1,o1⟩;have P1:=xh P1;have B1:=xh (B0.o.only o1 NQ.o);have o1:=xh o1;clear p0;go_wp2_with fail;refine(KN.o _).mono ?_;rintro e w2 ⟨A,c,rfl,S2,f2,bS⟩
  have S2:=xh S2;have f2:=xh f2;have P2:=xh (P1.o.below bS);have B2:=xh (B1.o.below bS B1.o.lt);have O2:=xh (o1.o.trans (.ai bS));clear bS;go_wp2_with fail;have NE:=xh (show ¬w2.heap.size=w.heap.size from by have:=O2.o.size;simp at this;omega);have C3:=xh (aE.new w2 118 #[.bool leaf,.slice A l.length c]);have B3:=xh (B2.o.alloc (.cells #[.bool leaf,.slice A l.length c] 118))
  have S3:=xh (S2.o.alloc (.cells #[.bool leaf,.slice A l.length c] 118));have gu:=ae (Below.refl w2.heap.size w2) (.cells #[.bool leaf,.slice A l.length c] 118);have P3:=xh (P2.o.below gu);have O3:=xh (O2.o.trans (.ai gu));have f3:=xh (show ∀g∈ah (.slice A l.length c),w.heap.size<=g/\g≠w.heap.size from λg hg=>by have h1:=f2.o g hg;have h2:=o1.o.size;simp at h2;omega);clear gu
  generalize w2.alloc (.cells #[.bool leaf,.slice A l.length c] 118)=w3 at *;generalize w2.heap.size=g2 at *;have C3d:=xh C3.o.drew;have KS:=xh (And.intro (C3d.o.ab (i:=0) rfl) (C3d.o.ab (i:=1) rfl));clear C3;have C3:=C3d;have B3:=xh B3.o.drew;have S3:=xh S3.o.drew;have P3:=xh P3.o.drew;have O3:=xh O3.o.drew
  refine wp_region_held_drew (S:=λW=>W.cell? ⟨g2,0,none⟩=some (.bool leaf)/\W.cell? ⟨g2,1,none⟩=some (.slice A l.length c)) (by kernel_rfl) (KS.o) (λaq=>?_);generalize w3.drew=w4 at *;refine cV [(0,28),(1,29)] ?_
  iterate 2 refine bj ?_
  refine dn 2 30 λK hK=>?_;go_simp
  go_at_call 112
  refine(KB.o _ _).mono ?_;rintro e w5 ⟨rfl,rfl⟩;go_simp;refine aW hK (KS.o) (λaq=>?_);refine mW 3 λK hK=>?_;go_simp;obtain⟨B4,o4,d0,d1,z0,z1⟩:=EE (b':=leaf) (v':= .slice A l.length c) B3.o;have B4:=xh B4;have C4:=xh (C3.o.only o4 (by simpa using NE.o));have KS4:=xh (And.intro (C4.o.ab (i:=0) rfl) (C4.o.ab (i:=1) rfl));have o4:=xh o4;go_simp;refine aW hK (KS4.o) (λaq=>?_);refine cV [(4,5)] ?_
  iterate 1 refine bj ?_
  refine wpAnyH_done (by kernel_rfl) ?_ _;go_wp2_with fail;exact bodyPost_ret (Nd.fu rfl rfl B4.o) rfl ⟨A,c,rfl,S3.o.only o4.o (λg hg hm=>(f3.o g hg).2 (by simpa using hm)),λg hg=>(f3.o g hg).1,P3.o.aU o4.o NQ.o,lN (((ag.ai (S:=w.heap.size::F) O0.o).trans (lO O3.o)).trans (lP o4.o)) (aj _)⟩
 .rw[if_pos he];have hq:(er != 0)=true:=by rw[bne_iff_ne];exact he
  have ki:(er==0)=false:=by rw[beq_eq_false_iff_ne];exact he
  clear hgs;go_enter func70,ntmps70;go_wp2_with fail;refine KG.o.mono ?_;rintro e w1 ⟨rfl,P1,o1⟩;have P1:=xh P1;have B1:=xh (B0.o.only o1 NQ.o);have o1:=xh o1;clear p0;go_wp2_with fail;refine(KB.o _ _).mono ?_;rintro e w2 ⟨rfl,rfl⟩;obtain⟨B2,o2,c0,c1,z0,z1⟩:=EE (b':=false) (v':= .slice none 0 0) B1.o;have B2:=xh B2;have o2:=xh o2;go_wp2_with fail
  exact bodyPost_ret (Nd.fu rfl rfl B2.o) rfl ⟨none,0,rfl,aK.nil _ _ _,by simp[ah],P1.o.aU o2.o NQ.o,lN (((ag.ai (S:=w.heap.size::F) O0.o).trans (lO o1.o)).trans (lP o2.o)) (aj _)⟩
theorem zy(leaf:Bool)(A:Option Addr)(n c:Nat)(l:List E)(S:aK w 111 3 (.slice A n c) n (aH l))(hn:n<=1000):
  Calls prog 175 #[bt leaf A n c] w λe w'=>e=.returned (.tuple #[.string ⟨(cf leaf l).1.toArray⟩,.int .i64 (cf leaf l).2])/\Below w.heap.size w w':=by
 have O0:=xh (ae (Below.refl w.heap.size w) (.cells #[.bool leaf,.slice A n c] 118));have B0:=xh (aE.new w 118 #[.bool leaf,.slice A n c]);have S0:=xh (S.below O0.o);have x0:=B0.o.ab (i:=0) rfl;have x1:=B0.o.ab (i:=1) rfl;have hl:=S.1;rw[lD]at hl
 by_cases hc:leaf=false/\0<n
 .obtain⟨rfl,h0⟩:=hc;obtain⟨e,r,rfl⟩:∃e r,l=e::r:=by
   cases l with
   |nil=>simp at hl;omega
   |cons e r=>exact⟨e,r,rfl⟩
  have KC:=xh (λ(W:World) (hb:Below (w.alloc (.cells #[.bool false,.slice A n c] 118)).heap.size (w.alloc (.cells #[.bool false,.slice A n c] 118)) W)=>Nd.J5 (S0.o.below hb) (by omega) h0);have KP:=xh (λ(W:World) (g c1:Nat) (h:aK W 111 3 (.slice (some ⟨g,0,none⟩) n c1) n (aH (blank false (e::r))))=>Nd.zu (w:=W) false (some ⟨g,0,none⟩) n c1 (blank false (e::r)) (Nd.aK.aH h).2 hn);unfold cf;generalize aZ false (blank false (e::r))=R at *
  have h0I:(0:Int)<(n:Int):=by omega
  have HN:=xh h0;clear S hl;unfold bt at *;go_enter func175,ntmps175;go_wp2_with fail;refine(KC.o _ (Below.refl _ _)).mono ?_;rintro e2 w1 ⟨g,c1,rfl,S1,aJ,hg⟩;have B1:=xh (B0.o.below aJ B0.o.lt);have O1:=xh (au O0.o aJ);have eV:g≠w.heap.size:=by simp at hg;omega
  obtain⟨rest,BG,hr1,_,hr2⟩:=S1.rp;have y0:=B1.o.ab (i:=0) rfl;have y1:=B1.o.ab (i:=1) rfl;have y2:=B1.o.frozen 1 (by simp);have B2:=xh (B1.o.bG 1 (.slice (some ⟨g,0,none⟩) n c1));have BG2:=BG.aU (p:=⟨w.heap.size,1,none⟩) (by simpa using eV) (.slice (some ⟨g,0,none⟩) n c1);have z0:=BG2.ab (i:=0) (v:= .string e.key) rfl;have z1:=BG2.frozen 0 (by simp[Nd.aH,E.cells]);have BG3:=BG2.bG 0 (.string ⟨#[]⟩)
  have S3:=xh (show aK ((w1.setCell ⟨w.heap.size,1,none⟩ (.slice (some ⟨g,0,none⟩) n c1)).setCell ⟨g,0,none⟩ (.string ⟨#[]⟩)) 111 3 (.slice (some ⟨g,0,none⟩) n c1) n (aH (blank false (e::r)))from
   ⟨by have:=S1.1;rw[lD]at this ⊢;simpa [blank]using this,.inr ⟨g,c1,rest,rfl,by simpa [blank,Nd.aH,E.cells]using BG3,by rw[lD]at hr1 ⊢;simpa [blank]using hr1,hr2⟩⟩)
  have B3:=xh (B2.o.aU (p:=⟨g,0,none⟩) (by simpa using λh=>eV h.symm) (.string ⟨#[]⟩));have u1:=B2.o.ab (i:=1) rfl;have v0:=B3.o.ab (i:=0) rfl;have v1:=B3.o.ab (i:=1) rfl;have O3:=xh (show Below w.heap.size w ((w1.setCell ⟨w.heap.size,1,none⟩ (.slice (some ⟨g,0,none⟩) n c1)).setCell ⟨g,0,none⟩ (.string ⟨#[]⟩))from
   ((ag.ai (S:=[w.heap.size,g]) O1.o).aN (((ag.refl [w.heap.size,g] w1).setCell (by simp) _).setCell (by simp) _) (λx hx _=>hx)).aO (aj _) (λx hx=>by simp at hx hg;omega))
  clear BG BG2 BG3 S1 aJ hr1 hr2 hg;go_wp2_with fail;refine(KP.o _ g c1 S3.o).mono ?_;rintro e3 w4 ⟨rfl,eM⟩;have O4:=xh (au O3.o eM);clear eM;go_wp2_with fail;go_ret2;exact aC O4.o
 .have xd:blank leaf l=l:=by
   unfold blank
   split
   .exfalso;refine hc ⟨rfl,?_⟩;simp at hl;omega
   .rfl
  have KP:=xh (Nd.zu leaf A n c l (Nd.aK.aH S0.o).2 hn);unfold cf;rw[xd];generalize aZ leaf l=R at *;clear S hl xd;unfold bt at *
  cases leaf
  .obtain rfl:n=0:=by
    by_cases h:0<n
    .exact absurd ⟨rfl,h⟩ hc
    .omega
   clear hc;go_enter func175,ntmps175;go_wp2_with fail;refine KP.o.mono ?_;rintro e3 w4 ⟨rfl,eM⟩;have O4:=xh (au O0.o eM);clear eM;go_wp2_with fail;go_ret2;exact aC O4.o
  .clear hc;go_enter func175,ntmps175;go_wp2_with fail;refine KP.o.mono ?_;rintro e3 w4 ⟨rfl,eM⟩;have O4:=xh (au O0.o eM);clear eM;go_wp2_with fail;go_ret2;exact aC O4.o
theorem GG(leaf:Bool)(l:List E):(cf leaf l).1.length<=232:=Nd.wv leaf _
theorem oL{q:QS}(h:TQ w tb I F q n K)(hK:K<=999999999999)(p:Int)(leaf:Bool)(A:Option Addr)(m c:Nat)(l:List E)(S:aK w 111 3 (.slice A m c) m (aH l))(hm:m<=1000):
  Calls prog 127 #[tp tb,.int .i64 p,bt leaf A m c] w λe w'=>e=.returned (.int .i64 (q.cK p leaf l).2)/\PQ w' I F (q.cK p leaf l).1 n (K+1)/\ag F w w':=by
 have O0:=xh (ae (Below.refl w.heap.size w) (.cells #[.bool leaf,.slice A m c] 118));have B0:=xh (aE.new w 118 #[.bool leaf,.slice A m c]);have x0:=B0.o.ab (i:=0) rfl;have x1:=B0.o.ab (i:=1) rfl;have T0:=xh (h.below O0.o);have KL:=xh (zy leaf A m c l (S.below O0.o) hm);have hlen:=GG leaf l;have KP:=xh (λ(W:World) (hW:TQ W tb I F q n K) (s:ByteArray) (hs:s.size<=232)=>R7 hW.2 hK p s hs);unfold QS.cK
 generalize cf leaf l=R at *;obtain⟨R1,R2⟩:=R;dsimp only at *;obtain⟨s,hs⟩:∃s:ByteArray,s=⟨R1.toArray⟩:=⟨_,rfl⟩;have mM:s.size<=232:=by rw[hs];show R1.toArray.size<=232;simpa using hlen
 have AK:R1=s.data.toList:=by rw[hs]
 rw[AK]at KL ⊢;rw[show(⟨s.data.toList.toArray⟩:ByteArray)=s from rfl]at KL;clear hs AK hlen S h;unfold bt tp at *;unfold pp at KP
 by_cases he:R2=0
 .subst he;rw[if_neg (by simp)];go_enter func127,ntmps127;go_wp2_with fail;refine KL.o.mono ?_;rintro e w1 ⟨rfl,aJ⟩;have T1:=xh (T0.o.below aJ);have O1:=xh (au O0.o aJ);have p0:=T1.o.1.ab (i:=0) rfl;unfold pp at p0;clear aJ x0 x1;go_wp2_with fail;refine(KP.o _ T1.o s mM).mono ?_;rintro e w2 ⟨rfl,P2,o2⟩;have P2:=xh P2;have o2:=xh o2;clear p0;go_wp2_with fail;go_ret;exact aC ⟨P2.o,(ag.ai O1.o).trans o2.o⟩
 .rw[if_pos he];have hq:(R2 != 0)=true:=by rw[bne_iff_ne];exact he
  have ki:(R2==0)=false:=by rw[beq_eq_false_iff_ne];exact he
  go_enter func127,ntmps127;go_wp2_with fail;refine KL.o.mono ?_;rintro e w1 ⟨rfl,aJ⟩;have T1:=xh (T0.o.below aJ);have O1:=xh (au O0.o aJ);clear aJ x0 x1;go_wp2_with fail;go_ret;exact aC ⟨T1.o.2.le (by omega),.ai O1.o⟩
theorem vp{q:QS}(h:TQ w tb I F q n K)(hK:K<=999999999999)(leaf:Bool)(A:Option Addr)(m c:Nat)(l:List E)(S:aK w 111 3 (.slice A m c) m (aH l))(hm:m<=1000):
  Calls prog 131 #[tp tb,bt leaf A m c] w λe w'=>e=.returned (.tuple #[.int .i64 (q.eg leaf l).2.1,.int .i64 (q.eg leaf l).2.2])/\PT w w' I F (q.eg leaf l).1 n (K+1):=by
 have O0:=xh (ae (Below.refl w.heap.size w) (.cells #[.bool leaf,.slice A m c] 118));have B0:=xh (aE.new w 118 #[.bool leaf,.slice A m c]);have x0:=B0.o.ab (i:=0) rfl;have x1:=B0.o.ab (i:=1) rfl;have T0:=xh (h.below O0.o);have KL:=xh (zy leaf A m c l (S.below O0.o) hm);have hlen:=GG leaf l;have KP:=xh (λ(W:World) (hW:TQ W tb I F q n K) (s:ByteArray) (hs:s.size<=232)=>yO hW.2 (by omega) s hs);unfold QS.eg
 generalize cf leaf l=R at *;obtain⟨R1,R2⟩:=R;dsimp only at *;obtain⟨s,hs⟩:∃s:ByteArray,s=⟨R1.toArray⟩:=⟨_,rfl⟩;have mM:s.size<=232:=by rw[hs];show R1.toArray.size<=232;simpa using hlen
 have AK:R1=s.data.toList:=by rw[hs]
 rw[AK]at KL ⊢;rw[show(⟨s.data.toList.toArray⟩:ByteArray)=s from rfl]at KL;clear hs AK hlen S h;unfold bt tp at *;unfold pp at KP
 by_cases he:R2=0
 .subst he;rw[if_neg (by simp)];go_enter func131,ntmps131;go_wp2_with fail;refine KL.o.mono ?_;rintro e w1 ⟨rfl,aJ⟩;have T1:=xh (T0.o.below aJ);have O1:=xh (au O0.o aJ);have p0:=T1.o.1.ab (i:=0) rfl;unfold pp at p0;clear aJ x0 x1;go_wp2_with fail;refine(KP.o _ T1.o s mM).mono ?_;rintro e w2 ⟨rfl,P2⟩;have P2:=xh P2;clear p0;go_wp2_with fail;go_ret2;obtain⟨F2,a,b,c⟩:=P2.o
  exact aC ⟨F2,a,(ag.ai O1.o).trans b,λg hg=>(c g hg).imp id (λh=>ay O1.o.size h)⟩
 .rw[if_pos he];have hq:(R2 != 0)=true:=by rw[bne_iff_ne];exact he
  have ki:(R2==0)=false:=by rw[beq_eq_false_iff_ne];exact he
  go_enter func131,ntmps131;go_wp2_with fail;refine KL.o.mono ?_;rintro e w1 ⟨rfl,aJ⟩;have T1:=xh (T0.o.below aJ);have O1:=xh (au O0.o aJ);clear aJ x0 x1;go_wp2_with fail;go_ret2;exact aC (.self (T1.o.2.le (by omega)) (.ai O1.o))
theorem On(leaf:Bool)(A:Option Addr)(m c:Nat)(l:List E)(S:aK w 111 3 (.slice A m c) m (aH l))(hm:m<=1000)(b:Bool)(hb:b=decide ((cf leaf l).2=0)):
  Calls prog 128 #[bt leaf A m c] w λe w'=>e=.returned (.bool b)/\Below w.heap.size w w':=by
 have O0:=xh (ae (Below.refl w.heap.size w) (.cells #[.bool leaf,.slice A m c] 118));have B0:=xh (aE.new w 118 #[.bool leaf,.slice A m c]);have x0:=B0.o.ab (i:=0) rfl;have x1:=B0.o.ab (i:=1) rfl;have KL:=xh (zy leaf A m c l (S.below O0.o) hm);generalize cf leaf l=R at *;obtain⟨R1,R2⟩:=R;dsimp only at *;clear S;unfold bt at *
 by_cases he:R2=0
 .subst he;obtain rfl:b=true:=by rw[hb];rfl
  clear hb;go_enter func128,ntmps128;go_wp2_with fail;refine KL.o.mono ?_;rintro e w1 ⟨rfl,aJ⟩;have O1:=xh (au O0.o aJ);clear aJ;go_wp2_with fail;go_ret;exact aC O1.o
 .obtain rfl:b=false:=by rw[hb];simpa using he
  have ki:(R2==0)=false:=by rw[beq_eq_false_iff_ne];exact he
  clear hb;go_enter func128,ntmps128;go_wp2_with fail;refine KL.o.mono ?_;rintro e w1 ⟨rfl,aJ⟩;have O1:=xh (au O0.o aJ);clear aJ;go_wp2_with fail;go_ret;exact aC O1.o
open Nd (E aH bt aV aZ dD bH bf cd)
attribute [local go_sem ↓] bq
variable{w:World}
structure Step where
 aw:Int
 leaf:Bool
 l:List E
 at_:Nat
structure SM where
 s:Step
 A:Option Addr
 c:Nat
def SM.v(x:SM):Value:= .slice x.A x.s.l.length x.c
def SM.cells(x:SM):List Value:=[.int .i64 x.s.aw,.bool x.s.leaf,x.v,.int .i64 (x.s.at_:Nat)]
structure aM(w:World)(b:Nat)(v:Value)(L:List SM):Prop where
 s:aK w 120 4 v L.length (L.flatMap SM.cells)
 f:∀g∈ah v,b<=g
 e:∀x∈L,aK w 111 3 x.v x.s.l.length (aH x.s.l)/\∀g∈ah x.v,b<=g
 d:L.Pairwise λx y=> ∀g∈ah x.v,g∉ah y.v
section
variable{w w':World}{b:Nat}{v:Value}{L:List SM}{S:List Nat}
theorem aM.only(h:aM w b v L)(o:ag S w w')(hs:∀g∈S,g<b):aM w' b v L:=
 ⟨h.s.only o (λg hg hm=>by have:=h.f g hg;have:=hs g hm;omega),h.f,λx hx=>⟨(h.e x hx).1.only o (λg hg hm=>by have:=(h.e x hx).2 g hg;have:=hs g hm;omega),(h.e x hx).2⟩,h.d⟩
theorem aM.below(h:aM w b v L)(hb:Below w.heap.size w w'):aM w' b v L:=h.only (S:=[]) (.ai hb) (by simp)
theorem aM.nil(w:World)(b:Nat):aM w b (.slice none 0 0) []:=⟨aK.nil _ _ _,by simp[ah],by simp,List.Pairwise.nil⟩
end
def LU:Value->Nat
 |.slice _ n _=>n
 |_=>0
def nG(key:ByteArray):Nat->QS->Int->List Step->QS×List Step×Int
 |0,q,_,_=>(q,[],14)
 |m+1,q,p,out=>
  if(q.bM p).2.2.2≠0 then((q.bM p).1,[],(q.bM p).2.2.2)
  else if(q.bM p).2.1=true then((q.bM p).1,out++[⟨p,true,(q.bM p).2.2.1,0⟩],0)
  else if(q.bM p).2.2.1=[]then((q.bM p).1,[],14)
  else nG key m (q.bM p).1 ((q.bM p).2.2.1.getD (bH (q.bM p).2.2.1 key) Nd.E.zero).aU (out++[⟨p,false,(q.bM p).2.2.1,bH (q.bM p).2.2.1 key⟩])
def QS.eB(q:QS)(key:ByteArray):QS×List Step×Int:=nG key 16 q 0 []
theorem vq{l:List E}(h:l≠[])(key:ByteArray):bH l key<l.length:=by
 have hl:0<l.length:=sR.2 h;unfold bH;have hle:bf l key<=l.length:=nX
 split
 .rename_i hh;unfold cd at hh
  cases hx:l[bf l key]? with
  |none=>rw[hx]at hh;cases hh
  |some e=>exact(aX.1 hx).1
 .omega
theorem lS(q:QS)(p:Int):(q.bM p).2.2.1.length<=57:=by
 unfold QS.bM
 split
 .exact bm _
 .exact Nd.Gy _
theorem qZ{e:Int}:xg e=0↔e=0:=by unfold xg;split<;>omega
theorem vr{q:QS}{p:Int}(h:(q.bM p).2.2.2=0):dD (q.bM p).2.2.1 (q.bM p).2.1:=by
 unfold QS.bM at h ⊢
 split at h
 .rename_i h2;exact absurd (qZ.1 h) h2
 .rename_i h2;rw[if_neg h2];exact Nd.wy (qZ.1 h)
theorem eJ(w:World)(o:Obj):(w.alloc o).heap.size=w.heap.size+1:=by simp
theorem eK:∀L:List SM,(L.flatMap SM.cells).length=L.length*4
 |[]=>rfl
 |x::L=>by rw[gS,aQ,eK L];simp[SM.cells];omega
theorem q7:∀{L:List SM} {k:Nat} {x:SM},L[k]?=some x->∀j,j<4->(L.flatMap SM.cells)[k*4+j]?=x.cells[j]?
 |[],_,_,h,_,_=>by simp at h
 |y::L,0,x,h,j,hj=>by
  simp only[rR,Option.some.injEq]at h;subst h;rw[gS,bD (by simp[SM.cells];omega),n7,bh]
 |y::L,k+1,x,h,j,hj=>by
  rw[pA]at h;rw[gS,dE (by simp[SM.cells];omega),show(k+1)*4+j-y.cells.length=k*4+j by simp[SM.cells];omega];exact q7 h j hj
theorem Oo:(prog.info? 120).map (λi=>(i.zero,i.size,i.bytes))=some (some (.agg #[.int .i64 0,.bool false,.slice none 0 0,.int .i64 0]),4,48):=by kernel_rfl
theorem zz{v:Value}{m:Nat}{L:List Value}(S:aK w 120 4 v m L)(cs:List Value)(hcs:cs.length=4)(h1:∀u∈cs,u.oneCell'=true)(hm:m<=100):
  ∃v' w',df prog 114 114 (w.alloc (.cells cs.toArray 120)) v (.slice (some ⟨w.heap.size,0,none⟩) 1 1)= .ok v' w'/\aK w' 120 4 v' (m+1) (L++cs)/\ag (ah v) w w'/\(∀g∈ah v',g∈ah v\/w.heap.size<=g):=by
 obtain⟨i0,hi,ke,iX,jF⟩:=info_parts Oo;obtain⟨v',w',h1,h2,h3,h4⟩:=di (P:=prog) (S.alloc (.cells cs.toArray 120)) 114 114 i0 _ 48 underlying114 hi ke iX jF rfl (by omega)
  ⟨w.heap.size,0,none⟩ 1 1 cs (by rw[hcs]) (bn (aE.new w 120 cs.toArray) 0 _ (by simp)) h1 (by unfold maxLen;omega) (by omega)
 exact⟨v',w',h1,h2,((ag.refl _ _).alloc _).aN h3 (λx hx _=>hx),λg hg=>(h4 g hg).imp id (λh=>by simp at h;omega)⟩
theorem aM.push{w':World}{b:Nat}{v v':Value}{L:List SM}(h:aM w b v L)(x:SM)(S':aK w' 120 4 v' (L.length+1) (L.flatMap SM.cells++x.cells))(o:ag (ah v) w w')(f:∀g∈ah v',g∈ah v\/w.heap.size<=g)(hb:b<=w.heap.size)
 (hx:aK w 111 3 x.v x.s.l.length (aH x.s.l))(hf:∀g∈ah x.v,b<=g)(hn:∀y∈L,∀g∈ah y.v,g∉ah x.v):aM w' b v' (L++[x]):=by
 have po:∀y:SM,aK w 111 3 y.v y.s.l.length (aH y.s.l)->aK w' 111 3 y.v y.s.l.length (aH y.s.l):=λy hy=>hy.only o (gP hy h.s (by decide));refine⟨by rw[aQ,uu];simpa using S',λg hg=>(f g hg).elim (h.f g) (λh=>by omega),λy hy=>?_,?_⟩
 .rcases az.1 hy with hy|hy
  .exact⟨po y (h.e y hy).1,(h.e y hy).2⟩
  .rw[aP.1 hy];exact⟨po x hx,hf⟩
 .rw[dI];exact⟨h.d,Di _ _,λy hy z hz=>by rw[aP.1 hz];exact hn y hy⟩
theorem zA{tb:Nat}{I:Ix}{F:List Nat}{q:QS}{n K:Nat}(h:TQ w tb I F q n K)(hK:K<=999999999900)(key:ByteArray):
  Calls prog 63 #[tp tb,.string key] w λe w'=> ∃v L,e=.returned (.tuple #[v,.int .i64 (q.eB key).2.2])/\aM w' w.heap.size v L/\L.map SM.s=(q.eB key).2.1/\PQ w' I F (q.eB key).1 n (K+16)/\ag F w w':=by
 have KR:=xh (λ(W:World) (qj:QS) (kj:Nat) (hW:TQ W tb I F qj n kj) (hk:kj<=999999999999) (p:Int)=>nF hW hk p);have HT:=xh h;have sO:=xh h.lt;have HNE:=xh h.ne;obtain⟨R,hR⟩:∃R,q.eB key=R:=⟨_,rfl⟩;rw[hR];unfold QS.eB at hR;have HR:=xh hR;clear h hR;unfold tp bt at *;go_enter func63,ntmps63;go_wp2_with fail
 go_step3
 go_wp2_with fail
 go_step3
 go_wp2_with fail
 go_loopw [6,7] (λov pv wr=> ∃(i:Nat) (L:List SM) (p:Int) (qi:QS),i<=16/\L.length=i/\pv=.int .i64 p/\aK wr 120 4 ov i (L.flatMap SM.cells)/\(∀x∈L,x.s.leaf=false)/\Hid (nG key (16-i) qi p (L.map SM.s)=R)/\Hid (aM wr w.heap.size ov L/\TQ wr tb I F qi n (K+i)/\ag F w wr)) (λov _ _=>16-LU ov)
 case atStart=>exact⟨0,[],0,q,by omega,rfl,rfl,aK.nil _ _ _,by simp,HR,xh ⟨.nil _ _,HT.o,ag.refl _ _⟩⟩
 case round=>
  obtain⟨i,L,p,qi,hi,hl,rfl,S1,uk,HW,HA⟩:=hrel;obtain⟨VA,vc,rfl⟩:=ao S1
  by_cases h16:i<16
  .have h16I:(i:Int)<16:=by omega
   have K1:=xh (KR.o wr qi (K+i) HA.o.2.1 (by omega) p);have ir:=vr (q:=qi) (p:=p);have hlen:=lS qi p;have HW:=HW.o;rw[show 16-i=(16-(i+1))+1 by omega]at HW;unfold nG at HW;generalize qi.bM p=r at *;obtain⟨q1,leaf,l,er⟩:=r;dsimp only at *;have HW:=xh HW;have JY:=xh uk;have HL:=xh hl;clear hl uk S1;go_wp2_with fail;refine K1.o.mono ?_;rintro e w2 ⟨A,c,rfl,S2,f2,P2,o2⟩
   have H2:=xh (show aM w2 w.heap.size (.slice VA i vc) L/\TQ w2 tb I F q1 n (K+(i+1))/\ag F w w2/\aK w2 111 3 (.slice A l.length c) l.length (aH l)/\(∀g∈ah (.slice A l.length c),wr.heap.size<=g)/\wr.heap.size<=w2.heap.size from
    ⟨HA.o.1.only o2 (λg hg=>sO.o g (bz _ hg)),HA.o.2.1.next o2 P2,HA.o.2.2.trans o2,S2,f2,o2.size⟩)
   have HX:=xh (show ∀y∈L,∀g∈ah y.v,g∉ah (.slice A l.length c)from λy hy g hg hm=>by have h1:=f2 g hm;have h2:=((HA.o.1.e y hy).1).lt g hg;omega);clear S2 f2 P2 o2;have b3:=aE.new w2 118 #[.bool leaf,.slice A l.length c];have cZ:=ae (Below.refl w2.heap.size w2) (.cells #[.bool leaf,.slice A l.length c] 118)
   by_cases he:er=0
   .subst he;have HM:=xh (ir rfl);clear ir;have b4:=aE.new (w2.alloc (.cells #[.bool leaf,.slice A l.length c] 118)) 120 #[.int .i64 p,.bool leaf,.slice A l.length c,.int .i64 0];have b34:=b3.alloc (.cells #[.int .i64 p,.bool leaf,.slice A l.length c,.int .i64 0] 120);rw[eJ]at b4;have eM:=ae cZ (.cells #[.int .i64 p,.bool leaf,.slice A l.length c,.int .i64 0] 120);have m0:=b3.ab (i:=0) rfl;have m1:=b3.ab (i:=1) rfl;have n0:=b34.ab (i:=0) rfl
    have n1:=b34.ab (i:=1) rfl;have k0:=b4.ab (i:=0) rfl;have k1:=b4.ab (i:=1) rfl;have k2:=b4.ab (i:=2) rfl;have k3:=b4.ab (i:=3) rfl;have H4:=xh (And.intro b34 (And.intro b4 eM))
    cases leaf
    .have HW:=HW.o;rw[if_neg (by simp),if_neg (by simp)]at HW
     by_cases h0:l=[]
     .rw[if_pos h0]at HW;subst HW;have h0l:l.length=0:=by rw[h0];rfl
      have H5:=xh (show PQ _ I F q1 n (K+(i+1))/\ag F w _ from⟨H2.o.2.1.2.below eM,H2.o.2.2.1.trans (.ai eM)⟩);rw[h0l]at H5;clear b3 b4 b34 cZ eM h0;go_wp2_with fail;rw[Exit.noGoto_ret];go_ret2;exact⟨.slice none 0 0,[],by first|rfl|simp,.nil _ _,rfl,H5.o.1.le (by omega),H5.o.2⟩
     .rw[if_neg h0]at HW;have HW:=xh HW;have xd:=vq h0 key;have KB:=xh (Nd.zv false A l.length c l key (Nd.aK.aH (H2.o.2.2.2.1.below eM)).2 (by omega) HM.o);unfold bt at KB;obtain⟨ex,hex⟩:∃ex,l[bH l key]?=some ex:=⟨_,aT xd⟩;have hfar:(l.getD (bH l key) Nd.E.zero).aU=ex.aU:=by rw[jj,hex];rfl
      have HFAR:=xh hfar;have Ii:=xh xd;generalize bH l key=at_ at *;have Nf:¬l.length=0:=by omega
      have hl1:((l.length:Nat):Int)≠0:=by omega
      go_wp2_with fail;refine KB.o.mono ?_;rintro e w5 ⟨rfl,mD⟩;have N5:=xh (H4.o.1.below mD H4.o.1.lt);have B5:=xh (H4.o.2.1.below mD H4.o.2.1.lt);have O5:=xh (au H4.o.2.2 mD);have v3:=B5.o.ab (i:=3) rfl;have z3:=B5.o.frozen 3 (by simp);have B6:=xh (B5.o.bG 3 (.int .i64 (at_:Nat)));have N6:=xh (N5.o.aU (p:=⟨w2.heap.size+1,3,none⟩) (by show w2.heap.size≠w2.heap.size+1;omega) (.int .i64 (at_:Nat)))
      have O6:=xh (show Below w2.heap.size w2 (w5.setCell ⟨w2.heap.size+1,3,none⟩ (.int .i64 (at_:Nat)))from((ag.ai (S:=[w2.heap.size+1]) O5.o).trans ((ag.refl _ _).setCell (by simp) _)).aO (aj _) (λx hx=>by simp at hx;omega));have SA:=H2.o.1.below O6.o;have hvlt:∀g∈ah (.slice VA i vc),g<w2.heap.size:=H2.o.1.s.lt
      obtain⟨v',w7,ea,S7,oa,fa⟩:=zz SA.s [.int .i64 p,.bool false,.slice A l.length c,.int .i64 (at_:Nat)] rfl (by simp;exact⟨rfl,rfl,rfl,rfl⟩) (by rw[HL.o];omega);rw[HL.o]at S7;have H7:=xh (show aM w7 w.heap.size v' (L++[⟨⟨p,false,l,at_⟩,A,c⟩])/\TQ w7 tb I F q1 n (K+(i+1))/\ag F w w7 from
       ⟨SA.push ⟨⟨p,false,l,at_⟩,A,c⟩ (by rw[HL.o];exact S7) oa (λg hg=>(fa g hg).imp id (λh=>h)) (by have:=H2.o.2.2.1.size;have:=O6.o.size;omega) (H2.o.2.2.2.1.below O6.o) (λg hg=>ay HA.o.2.2.size (H2.o.2.2.2.2.1 g hg)) HX.o,
        (H2.o.2.1.below O6.o).only oa (λg hF hg=>by have:=SA.f g hg;have:=sO.o g hF;omega),
        (H2.o.2.2.1.trans (.ai O6.o)).aN oa (λg hg dV=>by have:=SA.f g hg;omega)⟩)
      have u1:=B6.o.ab (i:=0) rfl;have u2:=B6.o.ab (i:=1) rfl;have u3:=B6.o.ab (i:=2) rfl;have u4':=B6.o.ab (i:=3) rfl;have y1:=(N6.o.only oa (λhg=>by have:=hvlt _ hg;omega)).ab (i:=1) rfl;have y3:=(B6.o.only oa (λhg=>by have:=hvlt _ hg;omega)).ab (i:=3) rfl;obtain⟨ga,ca,wB,Az,BA,_,_⟩:=(H2.o.2.2.2.1.below O6.o).form (by omega) (by omega);have SE:=(Nd.aK.aH (H7.o.1.e ⟨⟨p,false,l,at_⟩,A,c⟩ (by simp)).1).2
      obtain⟨ad,vu,fN⟩:=SE.2 at_ ex hex;injection Az with e1 e2 e3
      subst e1 e3;injection vu with vu
      subst vu;rw[Nd.eP,bh]at fN;have xf:=fN.c2;dsimp only at xf;rw[show(w5.setCell ⟨w2.heap.size+1,3,none⟩ (.int .i64 (at_:Nat))).heap.size=w5.heap.size from by simp]at ea;have EA:=xh ea;obtain⟨g7,c7,rest7,rfl,B7,hc7,hr7⟩:=S7.form (by omega) (by omega);have S7:=xh (show aK w7 120 4 (.slice (some ⟨g7,0,none⟩) (i+1) c7) (i+1) ((L++[(⟨⟨p,false,l,at_⟩,some ⟨ga,0,none⟩,c⟩:SM)]).flatMap SM.cells)from by rw[uu];simpa [SM.cells,SM.v]using S7)
      have hatI:(at_:Int)<(l.length:Int):=by have:=Ii.o;omega
      clear ea oa fa SA BA SE fN B7 hr7 b3 b4 b34 cZ eM mD hex;go_wp2_with fail;rw[EA.o];go_wp2_with fail;have HW:=HW.o;rw[HFAR.o]at HW;go_roundw
      case rel=>exact⟨i+1,L++[⟨⟨p,false,l,at_⟩,some ⟨ga,0,none⟩,c⟩],ex.aU,q1,by omega,by rw[aQ,HL.o];rfl,rfl,S7.o,λx hx=>(az.1 hx).elim (JY.o x) (λh=>by rw[aP.1 h]),xh (by rw[cW];exact HW),H7⟩
      case measure=>simp[LU];omega
    .have HW:=HW.o;rw[if_neg (by simp),if_pos rfl]at HW;subst HW;have SA:=H2.o.1.below eM;obtain⟨v',w5,ea,S5,oa,fa⟩:=zz SA.s [.int .i64 p,.bool true,.slice A l.length c,.int .i64 0] rfl (by simp;exact⟨rfl,rfl,rfl,rfl⟩) (by rw[HL.o];omega);rw[HL.o]at S5;rw[eJ,eJ]at ea;have H5:=xh (show aM w5 w.heap.size v' (L++[⟨⟨p,true,l,0⟩,A,c⟩])/\PQ w5 I F q1 n (K+(i+1))/\ag F w w5 from
      ⟨SA.push ⟨⟨p,true,l,0⟩,A,c⟩ (by rw[HL.o];exact S5) oa (λg hg=>(fa g hg).imp id (λh=>h)) (by have:=H2.o.2.2.1.size;have:=eM.size;omega) (H2.o.2.2.2.1.below eM) (λg hg=>ay HA.o.2.2.size (H2.o.2.2.2.2.1 g hg)) HX.o,
       (H2.o.2.1.2.below eM).only oa (λg hF hg=>by have:=SA.f g hg;have:=sO.o g (bz _ hF);omega),
       (H2.o.2.2.1.trans (.ai eM)).aN oa (λg hg dV=>by have:=SA.f g hg;omega)⟩)
     obtain⟨g5,c5,rest5,rfl,B5,hc5,hr5⟩:=S5.form (by omega) (by omega);have x5:w5.cell? ⟨g5,i*4+1,none⟩=some (.bool true):=B5.ab (by
      rw[cM,cL,dE (by rw[eK,HL.o];omega),eK,HL.o,show i*4+1-i*4=1 by omega];rfl)
     have EA:=xh ea;have w1':IntKind.i64.wrap (((i+1:Nat):Int)-1)=(i:Int):=by rw[show((i+1:Nat):Int)-1=(i:Int) by omega];exact IntWalk.i64_in _ (by omega)
     have w2':(i:Int)<((i+1:Nat):Int):=by omega
     clear ea S5 oa fa B5 SA b3 b4 b34 cZ eM hr5;go_wp2_with fail;rw[EA.o];go_wp2_with fail;rw[Exit.noGoto_ret];go_ret2;exact⟨_,_,by first|rfl|simp,H5.o.1,by rw[cW];rfl,H5.o.2.1.le (by omega),H5.o.2.2⟩
   .have hq:(er != 0)=true:=by rw[bne_iff_ne];exact he
    have ki:(er==0)=false:=by rw[beq_eq_false_iff_ne];exact he
    have HW:=HW.o;rw[if_pos he]at HW;subst HW;have H3:=xh (show PQ (w2.alloc (.cells #[.bool leaf,.slice A l.length c] 118)) I F q1 n (K+(i+1))/\ag F w (w2.alloc (.cells #[.bool leaf,.slice A l.length c] 118))from⟨H2.o.2.1.2.below cZ,H2.o.2.2.1.trans (.ai cZ)⟩);clear b3 cZ ir;go_wp2_with fail;rw[Exit.noGoto_ret];go_ret2;exact⟨.slice none 0 0,[],by first|rfl|simp,.nil _ _,rfl,H3.o.1.le (by omega),H3.o.2⟩
  .obtain rfl:i=16:=by omega
   have HW:=HW.o;rw[show 16-16=0 by omega]at HW;unfold nG at HW;subst HW;obtain⟨g5,c5,rest5,hv,B5,hc5,hr5⟩:=S1.form (by omega) (by omega);injection hv with e1 e2 e3
   subst e1 e3;obtain⟨x,hx⟩:∃x,L[15]?=some x:=⟨_,aT (by omega)⟩;have Ay:=uk x (aA hx);have x5:wr.cell? ⟨g5,61,none⟩=some (.bool false):=B5.ab (by
    rw[cM,bD (by rw[eK,hl];omega),show 61=15*4+1 from rfl,q7 hx 1 (by omega),<-Ay];rfl)
   clear B5 hr5 S1 uk hl hx Ay;go_wp2_with fail;go_ret2;exact⟨.slice none 0 0,by first|rfl|simp,[],.nil _ _,rfl,HA.o.2.1.2,HA.o.2.2⟩
end Sh
namespace Sh
open Go.RowKit Pk Dk Pg
open Nd (E aH bt aV aZ dD bH bf cd)
attribute [local go_sem ↓] Go.wp_at_zero Go.wp_at_succ
variable{key:ByteArray}{w:World}{tb n K:Nat}{I:Ix}{F:List Nat}
def QS.fE(q:QS)(x:E):QS×ByteArray×Int:=if x.aU<0 then(q,x.val,0)else((q.eE x.aU).1,⟨(q.eE x.aU).2.2.1.toArray⟩,xg (q.eE x.aU).2.2.2)
def QS.pY(q:QS)(x:E):QS×Int:=if x.aU<0 then(q,0)else((q.pN x.aU).1,xg (q.pN x.aU).2)
def QS.iQ(q:QS)(key value:ByteArray):QS×E×Int:=if value.size<=40 then(q,⟨key,value,-1⟩,0)else((q.pO value.data.toList).1,⟨key,⟨#[]⟩,(q.pO value.data.toList).2.1⟩,(q.pO value.data.toList).2.2)
def vv(s:Step):Prop:=dD s.l s.leaf/\s.l.length<=57/\(s.leaf=false->s.at_<s.l.length)
theorem GH(key:ByteArray):∀(m:Nat) (q:QS) (p:Int) (out:List Step),(nG key m q p out).2.2=0->∃pre x,(nG key m q p out).2.1=out++(pre++[x])/\x.leaf=true/\(∀s∈pre,s.leaf=false)/\(∀s∈pre++[x],vv s)/\pre.length<m
 |0,_,_,_,h=>absurd h (by show(14:Int)≠0;decide)
 |m+1,q,p,out,h=>by
  have hl:=lS q p;unfold nG at h ⊢
  split at h
  .rename_i h1;exact absurd h h1
  .rename_i h1;have hm:=vr (q:=q) (p:=p) (by simpa using h1);rw[if_neg h1]
   split at h
   .rename_i h2;rw[if_pos h2];refine⟨[],⟨p,true,(q.bM p).2.2.1,0⟩,rfl,rfl,by simp,λs hs=>?_,by simp⟩;simp at hs;subst hs;rw[h2]at hm;exact⟨hm,hl,λh=>by cases h⟩
   .rename_i h2;rw[if_neg h2]
    split at h
    .exact absurd h (by show(14:Int)≠0;decide)
    .rename_i h3;rw[if_neg h3];obtain⟨pre,x,e1,e2,e3,e4,e5⟩:=GH key m _ _ _ h;have h2:(q.bM p).2.1=false:=by simpa using h2
     refine⟨⟨p,false,(q.bM p).2.2.1,bH (q.bM p).2.2.1 key⟩::pre,x,?_,e2,λs hs=>?_,λs hs=>?_,by simp;omega⟩
     .rw[e1];simp
     .rcases ar.1 hs with rfl|hs
      .rfl
      .exact e3 s hs
     .rcases ar.1 hs with rfl|hs
      .rw[h2]at hm;exact⟨hm,hl,λ_=>vq h3 key⟩
      .exact e4 s hs
theorem J6{q:QS}(h:(q.eB key).2.2=0):∃pre x,(q.eB key).2.1=pre++[x]/\x.leaf=true/\(∀s∈pre,s.leaf=false)/\(∀s∈pre++[x],vv s)/\pre.length<16:=by
 obtain⟨pre,x,e1,e2⟩:=GH key 16 q 0 [] h;exact⟨pre,x,e1,e2⟩
theorem TQ.drew{q:QS}(h:TQ w tb I F q n K):TQ w.drew tb I F q n K:=⟨h.1.drew,h.2.drew⟩
theorem ss{q:QS}(h:TQ w tb I F q n K)(hK:K<=999999999900)(x:E):
  Calls prog 62 #[tp tb,x.agg] w λe w'=>e=.returned (.tuple #[.string (q.fE x).2.1,.int .i64 (q.fE x).2.2])/\PQ w' I F (q.fE x).1 n (K+5)/\ag F w w':=by
 have O0:=xh (ae (Below.refl w.heap.size w) (.cells #[.string x.key,.string x.val,.int .i64 x.aU] 111));have B0:=xh (aE.new w 111 #[.string x.key,.string x.val,.int .i64 x.aU]);have T0:=xh (h.below O0.o);have x1:=B0.o.ab (i:=1) rfl;have x2:=B0.o.ab (i:=2) rfl;have p0:=T0.o.1.ab (i:=0) rfl;have S0:=xh (And.intro p0 x2);have NB:=xh (show w.heap.size∉F from λhm=>by have:=h.2.lt _ hm;omega)
 have KW:=xh (λ(W:World) (hW:TQ W tb I F q n K)=>Sc hW.2 hK x.aU);have KB:=xh zx;unfold QS.fE;generalize q.eE x.aU=R at *;obtain⟨q1,l1,b1,e1⟩:=R;dsimp only at *;clear h;unfold tp E.agg at *;unfold pp at KW p0 S0
 by_cases hf:x.aU<0
 .rw[if_pos hf];go_enter func62,ntmps62;go_wp2_with fail;go_ret2;exact aC ⟨T0.o.2.le (by omega),.ai O0.o⟩
 .rw[if_neg hf];go_enter func62,ntmps62;go_wp2_with fail;clear p0 x1 x2;refine wp_region_held_drew (S:=λW=>W.cell? ⟨tb,0,none⟩=some (.pointer (some ⟨I.pb,0,none⟩))/\W.cell? ⟨w.heap.size,2,none⟩=some (.int .i64 x.aU)) (by kernel_rfl) (S0.o) (λaq=>?_);refine cV [(0,14),(1,15),(2,16),(3,17),(4,18),(5,19)] ?_
  iterate 6 refine bj ?_
  refine dn 6 20 λK hK=>?_;go_simp
  go_at_call 111
  refine(KW.o _ (T0.o.drew)).mono ?_;rintro e w2 ⟨rfl,P2,o2⟩;have P2:=xh P2;have O2:=xh ((ag.ai O0.o).drew.trans o2);have S2:=xh (And.intro ((T0.o.drew.next o2 P2.o).1.ab (i:=0) rfl) ((B0.o.drew.only o2 NB.o).ab (i:=2) rfl));clear o2;go_simp;refine aW hK (S2.o) (λaq=>?_);refine cV [(7,13),(8,21),(9,22),(10,6),(11,7)] ?_
  iterate 5 refine bj ?_
  refine wpAnyH_done (by kernel_rfl) ?_ _;go_wp2_with fail;refine(KB.o _ _).mono ?_;rintro e w3 ⟨rfl,rfl⟩;go_wp2_with fail;go_ret2;exact aC ⟨P2.o,O2.o⟩
theorem Cq{q:QS}(h:TQ w tb I F q n K)(hK:K<=999999999900)(x:E):
  Calls prog 71 #[tp tb,x.agg] w λe w'=>e=.returned (.int .i64 (q.pY x).2)/\PQ w' I F (q.pY x).1 n (K+5)/\ag F w w':=by
 have O0:=xh (ae (Below.refl w.heap.size w) (.cells #[.string x.key,.string x.val,.int .i64 x.aU] 111));have B0:=xh (aE.new w 111 #[.string x.key,.string x.val,.int .i64 x.aU]);have T0:=xh (h.below O0.o);have x1:=B0.o.ab (i:=1) rfl;have x2:=B0.o.ab (i:=2) rfl;have p0:=T0.o.1.ab (i:=0) rfl;have S0:=xh (And.intro p0 x2);have NB:=xh (show w.heap.size∉F from λhm=>by have:=h.2.lt _ hm;omega)
 have KW:=xh (λ(W:World) (hW:TQ W tb I F q n K)=>NU hW.2 hK x.aU);have KB:=xh zx;unfold QS.pY;generalize q.pN x.aU=R at *;obtain⟨q1,e1⟩:=R;dsimp only at *;clear h;unfold tp E.agg at *;unfold pp at KW p0 S0
 by_cases hf:x.aU<0
 .rw[if_pos hf];go_enter func71,ntmps71;go_wp2_with fail;go_ret;exact aC ⟨T0.o.2.le (by omega),.ai O0.o⟩
 .rw[if_neg hf];go_enter func71,ntmps71;go_wp2_with fail;clear p0 x1 x2;refine wp_region_held_drew (S:=λW=>W.cell? ⟨tb,0,none⟩=some (.pointer (some ⟨I.pb,0,none⟩))/\W.cell? ⟨w.heap.size,2,none⟩=some (.int .i64 x.aU)) (by kernel_rfl) (S0.o) (λaq=>?_);refine cV [(0,8),(1,9),(2,10),(3,11),(4,12),(5,13)] ?_
  iterate 6 refine bj ?_
  refine dn 6 14 λK hK=>?_;go_simp
  go_at_call 123
  refine(KW.o _ (T0.o.drew)).mono ?_;rintro e w2 ⟨rfl,P2,o2⟩;have P2:=xh P2;have O2:=xh ((ag.ai O0.o).drew.trans o2);have S2:=xh (And.intro ((T0.o.drew.next o2 P2.o).1.ab (i:=0) rfl) ((B0.o.drew.only o2 NB.o).ab (i:=2) rfl));clear o2;go_simp;refine aW hK (S2.o) (λaq=>?_);refine dn 7 15 λK hK=>?_;go_simp
  go_at_call 112
  refine(KB.o _ _).mono ?_;rintro e w3 ⟨rfl,rfl⟩;go_simp;refine aW hK (S2.o) (λaq=>?_);refine cV [(8,4)] ?_
  iterate 1 refine bj ?_
  refine wpAnyH_done (by kernel_rfl) ?_ _;go_wp2_with fail;go_ret;exact aC ⟨P2.o,O2.o⟩
theorem Td{g:Nat}{a b a' b':ByteArray}{c c':Int}(B:aE w g 111 #[.string a,.string b,.int .i64 c]):
  aE (((w.setCell ⟨g,0,none⟩ (.string a')).setCell ⟨g,1,none⟩ (.string b')).setCell ⟨g,2,none⟩ (.int .i64 c')) g 111 #[.string a',.string b',.int .i64 c']/\ag [g] w (((w.setCell ⟨g,0,none⟩ (.string a')).setCell ⟨g,1,none⟩ (.string b')).setCell ⟨g,2,none⟩ (.int .i64 c'))/\
   w.cell? ⟨g,0,none⟩=some (.string a)/\w.cell? ⟨g,1,none⟩=some (.string b)/\w.cell? ⟨g,2,none⟩=some (.int .i64 c)/\w.frozen? ⟨g,0,none⟩=false/\w.frozen? ⟨g,1,none⟩=false/\w.frozen? ⟨g,2,none⟩=false:=
 ⟨((B.bG 0 _).bG 1 _).bG 2 _,(((ag.refl _ _).setCell (by simp) _).setCell (by simp) _).setCell (by simp) _,B.ab rfl,B.ab rfl,B.ab rfl,B.frozen 0 (by simp),B.frozen 1 (by simp),B.frozen 2 (by simp)⟩
theorem Cs{q:QS}(h:TQ w tb I F q n K)(hK:K<=999999999900)(key value:ByteArray)(hv:value.size<=1024):
  Calls prog 73 #[tp tb,.string key,.string value] w λe w'=>e=.returned (.tuple #[(q.iQ key value).2.1.agg,.int .i64 (q.iQ key value).2.2])/\PT w w' I F (q.iQ key value).1 n (K+5):=by
 have O0:=xh (ae (Below.refl w.heap.size w) (.cells #[.string ⟨#[]⟩,.string ⟨#[]⟩,.int .i64 0] 111));have B0:=xh (aE.new w 111 #[.string ⟨#[]⟩,.string ⟨#[]⟩,.int .i64 0]);have T0:=xh (h.below O0.o);have p0:=T0.o.1.ab (i:=0) rfl;have NB:=xh (show w.heap.size∉F from λhm=>by have:=h.2.lt _ hm;omega);have KW:=xh (Se T0.o.2 value hv hK);have HH:=xh h;unfold QS.iQ;generalize q.pO value.data.toList=R at *;obtain⟨q1,l1,e1⟩:=R
 dsimp only at *;clear h;unfold tp E.agg at *;unfold pp at KW p0
 by_cases hs:value.size<=40
 .rw[if_pos hs];have hsI:(value.size:Int)<=40:=by omega
  have B2:=xh (aE.new w 111 #[.string key,.string value,.int .i64 (-1)]);have o2:=xh (ae (Below.refl w.heap.size w) (.cells #[.string key,.string value,.int .i64 (-1)] 111));go_enter func73,ntmps73;go_wp2_with fail;exact bodyPost_ret (Nd.nD rfl rfl B2.o) rfl ⟨rfl,.self ((HH.o.2.below o2.o).le (by omega)) (.ai o2.o)⟩
 .rw[if_neg hs];have hsI:¬(value.size:Int)<=40:=by omega
  go_enter func73,ntmps73;go_wp2_with fail;refine KW.o.mono ?_;rintro e w1 ⟨rfl,F1,P1,o1,f1⟩;have H1:=xh (And.intro P1 (And.intro o1 f1));have NB1:=xh (show w.heap.size∉F1 from λhm=>(f1 _ hm).elim NB.o (λh=>by simp at h;omega));obtain⟨B2,o2,c0,c1,c2,z0,z1,z2⟩:=Td (a':=key) (b':=⟨#[]⟩) (c':=l1) (B0.o.only o1 NB.o);have B2:=xh B2;have o2:=xh o2;clear P1 o1 f1 p0;go_wp2_with fail
  exact bodyPost_ret (Nd.nD rfl rfl B2.o) rfl ⟨rfl,F1,H1.o.1.aU o2.o NB1.o,lN (((ag.ai (S:=w.heap.size::F) O0.o).trans (lO H1.o.2.1)).trans (lP o2.o)) (aj _),λg hg=>(H1.o.2.2 g hg).imp id (λh=>by simp at h;omega)⟩
theorem aM.last{b:Nat}{v:Value}{L:List SM}(h:aM w b v L){pre:List Step}{x:Step}(e:L.map SM.s=pre++[x]):∃Lp A c g cc,L=Lp++[⟨x,A,c⟩]/\Lp.map SM.s=pre/\v=.slice (some ⟨g,0,none⟩) (pre.length+1) cc/\b<=g/\pre.length+1<=cc/\cc<=maxLen/\
  (∀j,j<4->w.cell? ⟨g,pre.length*4+j,none⟩=(SM.cells ⟨x,A,c⟩)[j]?)/\(∀j,j<4->w.frozen? ⟨g,pre.length*4+j,none⟩=false)/\aK w 111 3 (.slice A x.l.length c) x.l.length (aH x.l)/\(∀g∈ah (.slice A x.l.length c),b<=g):=by
 obtain⟨Lp,y,rfl⟩:∃Lp y,L=Lp++[y]:=by
  rcases rO L with h0|⟨Lp,y,h0⟩
  .rw[h0]at e;simp at e
  .exact⟨Lp,y,by simpa using h0⟩
 rw[cW,eh,mG]at e;obtain⟨e1,e2⟩:=Iq e rfl;simp only[List.cons.injEq,and_true]at e2;obtain⟨s,A,c⟩:=y;dsimp only at e2;subst e2;have hlen:Lp.length=pre.length:=by rw[<-e1,fM]
 have hS:=h.s;rw[aQ,ff,kz,hlen,bh]at hS;obtain⟨g,cc,rest,rfl,B,hc,hr⟩:=hS.form (by omega) (by omega);have hm:cc<=maxLen:=by obtain⟨_,_,_,_,h⟩:=hS.rp;exact h
 have hx:=h.e ⟨s,A,c⟩ (by simp);have mM:((Lp++[(⟨s,A,c⟩:SM)]).flatMap SM.cells).length=pre.length*4+4:=by rw[eK,aQ];simp;omega
 refine⟨Lp,A,c,g,cc,rfl,e1,rfl,h.f g (by simp[ah]),hc,hm,λj hj=>?_,λj hj=>B.frozen _ (by simp;rw[<-List.length_flatMap]at *;simp[eK]at *;omega),hx.1,hx.2⟩;rw[B.cell,cM,bD (by rw[mM];omega)];exact q7 (by rw[<-hlen,dE (aj _),eU];rfl) j hj
theorem zB{l:List E}(h:cd l key=true):∃e,l[bf l key]?=some e:=by
 unfold cd at h
 cases hx:l[bf l key]? with
 |none=>rw[hx]at h;cases h
 |some e=>exact⟨e,rfl⟩
def iE(l:List Step):Step:=l.getLastD ⟨0,false,[],0⟩
def QS.eQ(q:QS)(key:ByteArray):QS×ByteArray×Int:=
 if(q.eB key).2.2≠0 then((q.eB key).1,⟨#[]⟩,(q.eB key).2.2)
 else if cd (iE (q.eB key).2.1).l key=true then(q.eB key).1.fE ((iE (q.eB key).2.1).l.getD (bf (iE (q.eB key).2.1).l key) Nd.E.zero)
 else((q.eB key).1,⟨#[]⟩,9)
theorem Oq{q:QS}(h:TQ w tb I F q n K)(hK:K<=999999999000)(key:ByteArray):
  Calls prog 20 #[tp tb,.string key] w λe w'=>e=.returned (.tuple #[.string (q.eQ key).2.1,.int .i64 (q.eQ key).2.2])/\PQ w' I F (q.eQ key).1 n (K+21)/\ag F w w':=by
 have KW:=xh (zA h (by omega) key);have HT:=xh h;have KV:=xh (λ(W:World) (qj:QS) (hW:TQ W tb I F qj n (K+16)) (x:E)=>ss hW (by omega) x);have fy:=J6 (q:=q) (key:=key);unfold QS.eQ;generalize q.eB key=R at *;obtain⟨q1,steps,er⟩:=R;dsimp only at *;clear h;unfold tp at *
 by_cases he:er=0
 .subst he;obtain⟨pre,x,rfl,uk,NY,iV,hlen⟩:=fy rfl;rw[if_neg (by simp),show iE (pre++[x])=x from by unfold iE;simp];obtain⟨hm,hl57,_⟩:=iV x (by simp);have hm:=xh hm;clear fy NY iV uk;obtain⟨RR,bC⟩:∃RR,(if cd x.l key=true then q1.fE (x.l.getD (bf x.l key) Nd.E.zero)else(q1,⟨#[]⟩,9))=RR:=⟨_,rfl⟩;rw[bC];have eG:=xh bC;clear bC;go_enter func20,ntmps20;go_wp2_with fail;refine KW.o.mono ?_;rintro e w1 ⟨v,L,rfl,SA,nH,P1,o1⟩
  obtain⟨Lp,A,c,g,cc,rfl,lk,rfl,hbg,Ea,uj,gK,Qo,S1,f1⟩:=SA.last nH;have T1:=xh (HT.o.next o1 P1);have o1:=xh o1;have S1:=xh S1;have x1:w1.cell? ⟨g,pre.length*4+1,none⟩=some (.bool x.leaf):=gK 1 (by omega);have x2:w1.cell? ⟨g,pre.length*4+1+1,none⟩=some (.slice A x.l.length c):=gK 2 (by omega);have s1:IntKind.i64.wrap (((pre.length+1:Nat):Int)-1)=(pre.length:Int):=by rw[show((pre.length+1:Nat):Int)-1=(pre.length:Int) by omega];exact IntWalk.i64_in _ (by omega)
  have s2:(pre.length:Int)<((pre.length+1:Nat):Int):=by omega
  have gu:=ae (Below.refl w1.heap.size w1) (.cells #[.bool x.leaf,.slice A x.l.length c] 118);have B2:=xh (aE.new w1 118 #[.bool x.leaf,.slice A x.l.length c]);have y0:=B2.o.ab (i:=0) rfl;have y1:=B2.o.ab (i:=1) rfl;have S2:=xh (S1.o.below gu);have KF:=xh (Nd.vj x.leaf A x.l.length c x.l key (Nd.aK.aH S2.o).2 (by omega) hm.o);have HAL:=xh gu;unfold bt at KF;clear SA nH P1 lk gK Qo f1 gu;go_wp2_with fail
  refine KF.o.mono ?_;rintro e w3 ⟨rfl,cZ⟩;have O3:=xh (au HAL.o cZ);have T3:=xh (T1.o.below O3.o);have z1:=(B2.o.below cZ B2.o.lt).ab (i:=1) rfl;have S3:=xh (S2.o.below cZ);clear x1 x2 y0 y1 cZ
  by_cases hh:cd x.l key=true
  .obtain⟨ex,hex⟩:=zB hh;have Te:x.l.getD (bf x.l key) Nd.E.zero=ex:=by rw[jj,hex];rfl
   have bC:=eG.o;rw[if_pos hh,Te]at bC;subst bC;generalize cd x.l key=hb at *;subst hh;have pK:bf x.l key<x.l.length:=(aX.1 hex).1;generalize bf x.l key=at_ at *;obtain⟨ad,vu,fN⟩:=(Nd.aK.aH S3.o).2.2 at_ ex hex;obtain⟨ga,ca,wB,Az,_⟩:=S3.o.form (by omega) (by omega);injection Az with e1 e2 e3
   subst e1 e3;injection vu with vu
   subst vu;rw[Nd.eP,bh]at fN;have u0:=fN.c0;have u1:=fN.c1;have u2:=fN.c2;dsimp only at u1 u2;have K3:=xh (KV.o w3 q1 T3.o ex);unfold E.agg at K3;have hflI:(at_:Int)<(x.l.length:Int):=by omega
   clear fN hex Te;go_wp2_with fail;refine K3.o.mono ?_;rintro e w4 ⟨rfl,P4,o4⟩;have P4:=xh P4;have O4:=xh ((o1.o.trans (.ai O3.o)).trans o4);clear o4 u0 u1 u2 z1;go_wp2_with fail;go_ret2;exact aC ⟨P4.o,O4.o⟩
  .have hh2:cd x.l key=false:=by simpa using hh
   have bC:=eG.o;rw[if_neg hh]at bC;subst bC;generalize cd x.l key=hb at *;subst hh2;clear hh;go_wp2_with fail;go_ret2;exact aC ⟨T3.o.2.le (by omega),o1.o.trans (.ai O3.o)⟩
 .rw[if_pos he];have hq:(er != 0)=true:=by rw[bne_iff_ne];exact he
  have ki:(er==0)=false:=by rw[beq_eq_false_iff_ne];exact he
  clear fy;go_enter func20,ntmps20;go_wp2_with fail;refine KW.o.mono ?_;rintro e w1 ⟨v,L,rfl,SA,nH,P1,o1⟩;have P1:=xh P1;have o1:=xh o1;clear SA nH;go_wp2_with fail;go_ret2;exact aC ⟨P1.o.le (by omega),o1.o⟩
open Nd (E aH bt aV aZ dD bH bf cd bJ)
variable{w w':World}{I:Ix}{F:List Nat}{n K K0 tb:Nat}
def keyOf(l:List E):ByteArray:=(l.headD Nd.E.zero).key
def QS.zC(q:QS)(leaf:Bool)(la lb:List E):QS×Int:=
 if(q.eg leaf la).2.2≠0 then((q.eg leaf la).1,(q.eg leaf la).2.2)
 else if((q.eg leaf la).1.eg leaf lb).2.2≠0 then(((q.eg leaf la).1.eg leaf lb).1,((q.eg leaf la).1.eg leaf lb).2.2)
 else((q.eg leaf la).1.eg leaf lb).1.cK 0 false [⟨⟨#[]⟩,⟨#[]⟩,(q.eg leaf la).2.1⟩,⟨keyOf lb,⟨#[]⟩,((q.eg leaf la).1.eg leaf lb).2.1⟩]
theorem PT.ML{q q0:QS}{A:Option Addr}{m c:Nat}{l:List E}(h:PT w w' I F q n K)(P:PQ w I F q0 n K0)(S:aK w 111 3 (.slice A m c) m (aH l)):aK w' 111 3 (.slice A m c) m (aH l):=by
 obtain⟨F',_,o,_⟩:=h;exact S.only o (λg hg=>by
  obtain⟨cs,B⟩:=xM S g hg;exact P.fR B)
theorem PT.tq{q q0:QS}(T:TQ w tb I F q0 n K0)(h:PT w w' I F q n K):∃F',TQ w' tb I F' q n K/\ag F w w'/\∀g∈F',g∈F\/w.heap.size<=g:=by
 obtain⟨F',P,o,f⟩:=h;exact⟨F',⟨T.1.only o T.ne,P⟩,o,f⟩
theorem Ot{q:QS}(h:TQ w tb I F q n K)(hK:K<=999999999900)(leaf:Bool)(A1:Option Addr)(m1 c1:Nat)(la:List E)(S1:aK w 111 3 (.slice A1 m1 c1) m1 (aH la))(A2:Option Addr)(m2 c2:Nat)(lb:List E)(S2:aK w 111 3 (.slice A2 m2 c2) m2 (aH lb))(hm1:m1<=1000)(Ig:m2<=1000)(h0:0<m2):
  Calls prog 130 #[tp tb,bt leaf A1 m1 c1,bt leaf A2 m2 c2] w λe w'=>e=.returned (.int .i64 (q.zC leaf la lb).2)/\PT w w' I F (q.zC leaf la lb).1 n (K+3):=by
 have ry:=ae (ae (Below.refl w.heap.size w) (.cells #[.bool leaf,.slice A1 m1 c1] 118)) (.cells #[.bool leaf,.slice A2 m2 c2] 118);have O0:=xh ry;have B1:=xh ((aE.new w 118 #[.bool leaf,.slice A1 m1 c1]).alloc (.cells #[.bool leaf,.slice A2 m2 c2] 118));have B2:=aE.new (w.alloc (.cells #[.bool leaf,.slice A1 m1 c1] 118)) 118 #[.bool leaf,.slice A2 m2 c2];rw[eJ]at B2;have B2:=xh B2
 have H0:=xh (And.intro (h.below ry) (And.intro (S1.below ry) (S2.below ry)));have x0:=B1.o.ab (i:=0) rfl;have x1:=B1.o.ab (i:=1) rfl;have KM1:=xh (vp H0.o.1 (by omega) leaf A1 m1 c1 la H0.o.2.1 hm1);have KM2:=xh (λ(W:World) (F':List Nat) (qj:QS) (hW:TQ W tb I F' qj n (K+1)) (S:aK W 111 3 (.slice A2 m2 c2) m2 (aH lb))=>vp hW (by omega) leaf A2 m2 c2 lb S Ig)
 have KW:=xh (λ(W:World) (F':List Nat) (qj:QS) (hW:TQ W tb I F' qj n (K+2)) (g:Nat) (l:List E) (S:aK W 111 3 (.slice (some ⟨g,0,none⟩) 2 2) 2 (aH l))=>oL hW (by omega) 0 false (some ⟨g,0,none⟩) 2 2 l S (by omega));have HL:=xh (show w.heap.size∉F/\w.heap.size+1∉F from⟨λhm=>by have:=h.2.lt _ hm;omega,λhm=>by have:=h.2.lt _ hm;omega⟩);obtain⟨eb,rb,rfl⟩:∃e r,lb=e::r:=by
  have:=S2.1;rw[lD]at this
  cases lb with
  |nil=>simp at this;omega
  |cons e r=>exact⟨e,r,rfl⟩
 obtain⟨RR,bC⟩:∃RR,q.zC leaf la (eb::rb)=RR:=⟨_,rfl⟩;rw[bC];unfold QS.zC keyOf at bC;generalize q.eg leaf la=R1 at *;obtain⟨q1,l1,e1⟩:=R1;dsimp only[List.headD_cons]at *;have eG:=xh bC;clear h S1 S2 bC ry;unfold tp bt at *;go_enter func130,ntmps130;go_wp2_with fail;refine KM1.o.mono ?_;rintro e w1 ⟨rfl,P1⟩;have S21:=xh (P1.ML H0.o.1.2 H0.o.2.2);obtain⟨F1,T1,o1,f1⟩:=P1.tq H0.o.1;have B21:=xh (B2.o.only o1 HL.o.2)
 have H1:=xh (show TQ w1 tb I F1 q1 n (K+1)/\ag F w w1/\(∀g∈F1,g∈F\/w.heap.size<=g)/\w.heap.size+1∉F1 from
  ⟨T1,(ag.ai O0.o).trans o1,λg hg=>(f1 g hg).imp id (λh=>by simp at h;omega),λhm=>(f1 _ hm).elim HL.o.2 (λh=>by rw[eJ,eJ]at h;omega)⟩)
 clear P1 T1 o1 f1 x0 x1
 by_cases Qc:e1=0
 .subst Qc;have y0:=B21.o.ab (i:=0) rfl;have y1:=B21.o.ab (i:=1) rfl;have K2:=xh (KM2.o w1 F1 q1 H1.o.1 S21.o);have bC:=eG.o;rw[if_neg (by simp)]at bC;generalize q1.eg leaf (eb::rb)=R2 at *;obtain⟨q2,l2,e2⟩:=R2;dsimp only at *;have eG:=xh bC;clear bC;go_wp2_with fail;refine K2.o.mono ?_;rintro e w2 ⟨rfl,P2⟩;have S22:=xh (P2.ML H1.o.1.2 S21.o);obtain⟨F2,T2,o2,f2⟩:=P2.tq H1.o.1;have B22:=xh (B21.o.only o2 H1.o.2.2.2)
  have H2:=xh (show TQ w2 tb I F2 q2 n (K+2)/\ag F w w2/\(∀g∈F2,g∈F\/w.heap.size<=g)from
   ⟨T2,H1.o.2.1.aN o2 (λg hg dV=>(H1.o.2.2.1 g hg).elim id (λh=>by omega)),λg hg=>(f2 g hg).elim (H1.o.2.2.1 g) (λh=>by have:=H1.o.2.1.size;omega)⟩)
  clear P2 T2 o2 f2 y0 y1
  by_cases wC:e2=0
  .subst wC;have bC:=eG.o;rw[if_neg (by simp)]at bC;obtain⟨g2,DS,Tf,pk,BB2,_,_⟩:=S22.o.form h0 (by omega);simp only[Value.slice.injEq,true_and]at pk;obtain⟨rfl,rfl⟩:=pk;have z1:=B22.o.ab (i:=1) rfl;have k0:w2.cell? ⟨g2,0,none⟩=some (.string eb.key):=BB2.ab rfl;have gu:=ae (Below.refl w2.heap.size w2) (.cells #[.string ⟨#[]⟩,.string ⟨#[]⟩,.int .i64 l1,.string eb.key,.string ⟨#[]⟩,.int .i64 l2] 111)
   have SN:aK (w2.alloc (.cells #[.string ⟨#[]⟩,.string ⟨#[]⟩,.int .i64 l1,.string eb.key,.string ⟨#[]⟩,.int .i64 l2] 111)) 111 3 (.slice (some ⟨w2.heap.size,0,none⟩) 2 2) 2 (aH [⟨⟨#[]⟩,⟨#[]⟩,l1⟩,⟨eb.key,⟨#[]⟩,l2⟩]):=
    ⟨rfl,.inr ⟨w2.heap.size,2,[],rfl,aE.new w2 _ _,rfl,by unfold maxLen;omega⟩⟩
   have K3:=xh (KW.o _ F2 q2 (H2.o.1.below gu) w2.heap.size _ SN);have h0I:(0:Int)<(m2:Int):=by omega
   have HAL:=xh gu;clear BB2 gu SN;rw[bC]at K3;clear bC;go_wp2_with fail;refine K3.o.mono ?_;rintro e w3 ⟨rfl,P3,o3⟩;have H3:=xh (show PT w w3 I F RR.1 n (K+3)from⟨F2,P3,(H2.o.2.1.trans (.ai HAL.o)).aN o3 (λg hg dV=>(H2.o.2.2 g hg).elim id (λh=>by omega)),H2.o.2.2⟩);clear P3 o3 z1 k0;go_wp2_with fail;go_ret;exact aC H3.o
  .have bC:=eG.o;rw[if_pos wC]at bC;subst bC;have hq:(e2 != 0)=true:=by rw[bne_iff_ne];exact wC
   have ki:(e2==0)=false:=by rw[beq_eq_false_iff_ne];exact wC
   go_wp2_with fail;go_ret;exact aC ⟨F2,H2.o.1.2.le (by omega),H2.o.2.1,H2.o.2.2⟩
 .have bC:=eG.o;rw[if_pos Qc]at bC;subst bC;have hq:(e1 != 0)=true:=by rw[bne_iff_ne];exact Qc
  have ki:(e1==0)=false:=by rw[beq_eq_false_iff_ne];exact Qc
  go_wp2_with fail;go_ret;exact aC ⟨F1,H1.o.1.2.le (by omega),H1.o.2.1,H1.o.2.2.1⟩
end Sh
end Go.Proofs.YtmonobkginiajaaGreat
