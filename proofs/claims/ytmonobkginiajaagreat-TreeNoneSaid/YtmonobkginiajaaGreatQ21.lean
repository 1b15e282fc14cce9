/- packed. -/
import Derived.Test.YtmonobkginiajaaGreatQ19
import Derived.Test.YtmonobkginiajaaGreatQ20
import Derived.Lib.Overlaps
import Derived.Lib.SliceRun
import Derived.Lib.AppendZerosOnto
import Derived.Test.YtmonobkginiajaaGreatQ16
set_option linter.all false
set_option maxRecDepth 100000
set_option maxHeartbeats 8000000
namespace Go.Proofs.YtmonobkginiajaaGreat
open Go.RowKit
noncomputable def sC (P:Program) (T T' ty:TypeId) (w:World) (d s:Value):Result Value:=(Builtin.copy_ #[T,T'] ty #[d,s]).run P w
theorem AO (P:Program) (ρ:Operand→Value) (dst:Option Tmp) (d s:Operand) (T T' t:TypeId) (p:String) (af:Array Edge) (g:Option (Nat×Bool)) (w:World):
  (execOp ρ {dst:=dst,op:= .call {callee:= .builtin .copy,args:= #[d,s],argTypes:= #[T,T']},type:=t,pos:=p,after:=af,guard:=g}).run P w=(sC P T T' t w (ρ d) (ρ s)).andThen fun v w'=> .ok (.value v) w':=by
 simp [execOp,resolve,invoke,builtin,sC]
noncomputable def pJ (P:Program) (T ty:TypeId) (w:World) (s:Value):Result Value:=(Builtin.clear_ #[T] ty #[s]).run P w
theorem LL (P:Program) (ρ:Operand→Value) (dst:Option Tmp) (s:Operand) (T t:TypeId) (p:String) (af:Array Edge) (g:Option (Nat×Bool)) (w:World):
  (execOp ρ {dst:=dst,op:= .call {callee:= .builtin .clear,args:= #[s],argTypes:= #[T]},type:=t,pos:=p,after:=af,guard:=g}).run P w=(pJ P T t w (ρ s)).andThen fun v w'=> .ok (.value v) w':=by
 simp [execOp,resolve,invoke,builtin,pJ]
theorem pK {P:Program} {w:World} {g:Nat} {t:TypeId} {cur:List Value} (B:ax w g t cur.toArray) (T ty elem:TypeId) (sz o oL sJ:Nat) (a:Addr) (Cf sCap:Nat) (cs:List Value)
  (hu:P.underlying T=some (.slice elem)) (hs:(P.info? elem).map (·.size)=some sz) (hn:cs.length=Nat.min Cf oL*sz)
  (IZ: ∀j v,cs[j]?=some v→w.cell? (a.add j)=some v) (nh:o+cs.length≤cur.length) (h1: ∀v∈cs,v.oneCell'=true):
  ∃w',sC P T T ty w (.slice (some ⟨g,o,none⟩) oL sJ) (.slice (some a) Cf sCap)= .ok (goInt (Nat.min Cf oL)) w'∧ax w' g t (putAt cur o cs).toArray∧ag [g] w w':=by
 refine ⟨w.setCells g o cs,?_,B.setCells cs o nh,(ag.refl _ _).setCells cs o (by simp)⟩;have hl:=run_loadCells_list (P:=P) w a cs IZ;have pV:=run_storeCells_cells (P:=P) g o cs 0 w (by intro j hj; rw [B.cell]; simp; omega) (by intro j hj; exact B.frozen _ (by simp; omega)) h1
 cases hq:P.info? elem with
 | none=>simp [hq] at hs
 | some i=>
  have hi:i.size=sz:=by simpa [hq] using hs
  simp [sC,Builtin.copy_,run_underlying hu,Builtin.lenOf,Builtin.firstCells,sizeOf,typeInfo,hq,hi,←hn,hl,pV]
theorem xu {P:Program} {w:World} {g:Nat} {t:TypeId} {cur:List Value} (B:ax w g t cur.toArray) (T ty elem:TypeId) (sz n cap:Nat) (a:Addr) (m c:Nat) (cs:List Value)
  (hu:P.underlying T=some (.slice elem)) (hs:(P.info? elem).map (·.size)=some sz) (hn:cs.length=m*sz)
  (IZ: ∀j v,cs[j]?=some v→w.cell? (a.add j)=some v) (hr:n+m≤cap) (nh:n*sz+cs.length≤cur.length) (h1: ∀v∈cs,v.oneCell'=true):
  ∃w',dI P T ty w (.slice (some ⟨g,0,none⟩) n cap) (.slice (some a) m c)= .ok (.slice (some ⟨g,0,none⟩) (n+m) cap) w'∧ax w' g t (putAt cur (n*sz) cs).toArray∧ag [g] w w':=by
 cases hq:P.info? elem with
 | none=>simp [hq] at hs
 | some i=>
  have hi:i.size=sz:=by simpa [hq] using hs
  subst hi;have h:=run_append_room_cells (P:=P) w T ty elem i hu hq g 0 n cap a m c cs hn IZ h1 hr (fun j hj=>by rw [B.cell]; simp; omega) (fun j hj=>B.frozen _ (by simp; omega));rw [Nat.zero_add] at h;exact ⟨_,h,B.setCells cs _ nh,(ag.refl _ _).setCells cs _ (by simp)⟩
theorem xw {P:Program} {w:World} {g:Nat} {t:TypeId} {cur:List Value} (B:ax w g t cur.toArray) (T ty elem:TypeId) (z:Value) (o c:Nat)
  (hu:P.underlying T=some (.slice elem)) (hz: ∀w,(zeroValue elem).run P w= .ok z w) (nh:o+z.cells.toList.length≤cur.length) (h1: ∀v∈z.cells.toList,v.oneCell'=true):
  ∃w',pJ P T ty w (.slice (some ⟨g,o,none⟩) 1 c)= .ok (.tuple #[]) w'∧ax w' g t (putAt cur o z.cells.toList).toArray∧ag [g] w w':=by
 refine ⟨w.setCells g o z.cells.toList,?_,B.setCells _ o nh,(ag.refl _ _).setCells _ o (by simp)⟩;have hzc:(Builtin.zeroCells z.cells 1).toList=z.cells.toList:=by
  simp [Builtin.zeroCells];apply List.ext_getElem
  ·simp
  ·intro i h1 h2;have:i<z.cells.size:=by simpa using h2
   simp [Nat.mod_eq_of_lt this];rw [getElem!_pos z.cells i this]
 have pV:=run_storeCells_cells (P:=P) g o z.cells.toList 0 w (by intro j hj; rw [B.cell]; simp at hj nh ⊢; omega) (by intro j hj; exact B.frozen _ (by simp at hj nh ⊢; omega)) h1;simp only [Nat.add_zero] at pV;simp [pJ,Builtin.clear_,run_underlying hu,hz,hzc,pV]
namespace Nd
open Sl
section
attribute [local go_sem ↓] Go.wp_at_zero Go.wp_at_succ aX AO LL
theorem kE:(Tryz.prog.info? 111).map (·.size)=some 3:=by kernel_rfl
theorem ents_cells (l:List E): ∀v∈aw l,v.oneCell'=true:=iW l
theorem ents_drop1 (l:List E) (k:Nat) (rest:List Value):(aw l++rest).drop (k*3)=if k≤l.length then aw (l.drop k)++rest else rest.drop ((k-l.length)*3):=by
 split
 ·rw [List.drop_append_of_le_length (by rw [an]; omega),jy]
 ·rename_i h;rw [List.drop_append,List.drop_eq_nil_of_le (by rw [an]; omega),List.nil_append,an]
  congr 1
  omega
theorem Hg (l:List E) (rest:List Value) (i:Nat) (hi:i<l.length) (z:List Value) (hz:z.length=3):
  putAt (putAt (aw l++rest) (i*3) (aw (l.drop (i+1)))) ((l.length-1)*3) z=aw (l.eraseIdx i)++(z++rest):=by
 have e1:putAt (aw l++rest) (i*3) (aw (l.drop (i+1)))=aw (l.eraseIdx i)++(aw (l.drop (l.length-1))++rest):=by
  unfold putAt;rw [List.take_append_of_le_length (by rw [an]; omega),qM,an,List.length_drop,show i*3+(l.length-(i+1))*3=(l.length-1)*3 by omega,
   List.drop_append_of_le_length (by rw [an]; omega),jy,←eE,←List.eraseIdx_eq_take_drop_succ]
 have e2:(aw (l.eraseIdx i)).length=(l.length-1)*3:=by rw [an,List.length_eraseIdx]; split<;>omega
 have e3:(aw (l.drop (l.length-1))).length=3:=by rw [an,List.length_drop]; omega
 rw [e1];unfold putAt;rw [hz,←e2,List.take_left,List.append_assoc,←List.drop_drop,List.drop_left,←e3,List.drop_left]
theorem mi {w:World} {A:Option Addr} {n c:Nat} {l:List E} (S:aG w 111 3 (.slice A n c) n (aw l)) (i:Nat) (hi:i<n) (hn:n≤100000):
  Calls Tryz.prog 72 #[.slice A n c,.int .i64 (i:Nat),.int .i64 ((i:Int)+1)] w fun e w'=>e= .returned (.slice A (n-1) c)∧aG w' 111 3 (.slice A (n-1) c) (n-1) (aw (l.eraseIdx i))∧ag (ah (.slice A n c)) w w':=by
 obtain ⟨g,cap,rest,hv,BG,hcn,GR⟩:=S.form (by omega) (by omega);simp only [Value.slice.injEq,true_and] at hv;obtain ⟨rfl,rfl⟩:=hv;have rl:c≤maxLen:=by obtain ⟨_,_,_,_,h⟩:=S.oM; exact h
 have oN:l.length=n:=by have:=S.1; rw [an] at this; omega
 have lB:=xh oN;have IP:=xh (show rest.length=c*3-n*3 by rw [an,oN] at GR; omega);have BD:=xh BG;clear S oN GR BG;unfold maxLen at rl;have s1:(i:Int)≤(i:Int)+1:=by omega
 have s2:(i:Int)+1≤(n:Int):=by omega
 have s3:(n:Int)≤(c:Int):=by omega
 have s4:((i:Int)+1).toNat=i+1:=by omega
 have s5: ¬(i:Int)=(i:Int)+1:=by omega
 have s6:(0:Int)≤(i:Int)+1:=by omega
 have s7:(i:Int)≤(n:Int):=by omega
 have s8:(i:Int)≤(c:Int):=by omega
 have s9:(i:Int)+1≤(c:Int):=by omega
 have s10: ¬c=i:=by omega
 have s12:n-(n-1)=1:=by omega
 go_enter Tryz.func72,Tryz.ntmps72;go_wp2_with fail;have ln:=xh (show (n-1)*3+(Value.agg #[.string ⟨#[]⟩,.string ⟨#[]⟩,.int .i64 0]).cells.toList.length≤(putAt (aw l++rest) (i*3) (aw (l.drop (i+1)))).length from by
  rw [hX (by rw [an,List.length_drop,List.length_append,an,lB.out,IP.out]; omega),List.length_append,an,lB.out,IP.out];show (n-1)*3+3≤_;omega)
 have HDC:=xh (show putAt (putAt (aw l++rest) (i*3) (aw (l.drop (i+1)))) ((n-1)*3) (Value.agg #[.string ⟨#[]⟩,.string ⟨#[]⟩,.int .i64 0]).cells.toList=aw (l.eraseIdx i)++((Value.agg #[.string ⟨#[]⟩,.string ⟨#[]⟩,.int .i64 0]).cells.toList++rest) from by
  have:=Hg l rest i (by rw [lB.out]; exact hi) (Value.agg #[.string ⟨#[]⟩,.string ⟨#[]⟩,.int .i64 0]).cells.toList rfl;rw [lB.out] at this;exact this)
 have vE:=xh (show (l.eraseIdx i).length=n-1 from by rw [List.length_eraseIdx,lB.out,if_pos hi]);have HRL:=xh (show (aw (l.eraseIdx i)).length+((Value.agg #[.string ⟨#[]⟩,.string ⟨#[]⟩,.int .i64 0]).cells.toList++rest).length=c*3 from by
  rw [an,vE.out,List.length_append,IP.out];show (n-1)*3+(3+(c*3-n*3))=c*3;omega)
 have HCM:=xh rl;have Hh: ∀(a:Addr),(i+1<n→a=⟨g,(i+1)*3,none⟩)→ ∀j v,(aw (l.drop (i+1)))[j]?=some v→w.drew.cell? (a.add j)=some v:=fun a ha j v hv=>by
  have hl:i+1<n:=by
   have:=(List.getElem?_eq_some_iff.1 hv).1;rw [an,List.length_drop,lB.out] at this;omega
  rw [ha hl,eX];refine (BD.out.drew.cell _).trans ?_;rw [←jy,List.getElem?_drop] at hv;rw [List.getElem?_toArray,List.getElem?_append_left (List.getElem?_eq_some_iff.1 hv).1,hv]
 by_cases Cc:c=i+1
 ·have s11:c-(i+1)=0:=by omega
  have HN:=xh (show n=i+1 by omega)
  replace Cc:=xh Cc
  refine wp_region_held_drew (S:=fun _=>True) (by kernel_rfl) (trivial) (fun aj=>?_);refine bR [(0,20),(1,21),(2,22),(3,23),(4,24),(5,25)] ?_
  iterate 6 (refine zt ?_; try simp only [Act.put,pa,pb,pc])
  refine bS ?_;refine cA (i:=6) (o:=⟨some 26,_,_,_,_,_⟩) fun K hK=>?_;go_simp;obtain ⟨w2,ea,B2,oa⟩:=xu (P:=Tryz.prog) BD.out.drew 108 108 111 3 i c ⟨g,0,none⟩ (n-(i+1)) 0 (aw (l.drop (i+1))) Tryz.underlying108 kE (by rw [an,List.length_drop,lB.out]) (Hh _ (fun h=>by first | rfl | (have:=HN.out; omega))) (by omega) (by rw [an,List.length_drop,lB.out]; simp only [List.length_append,an,lB.out]; have:=IP.out; omega) (iW _)
  rw [show i+(n-(i+1))=n-1 by omega] at ea;have EA:=xh ea;have B2:=xh B2;have OA:=xh oa;clear ea oa;rw [if_pos Cc.out,EA.out];go_simp;refine hK.out _ _ (trivial) (fun aj=>?_)
  try simp only [Act.put,pa,pb,pc]
  refine bR [(7,0)] ?_
  iterate 1 (refine zt ?_; try simp only [Act.put,pa,pb,pc])
  refine bS ?_;refine wpAnyH_done (by kernel_rfl) ?_ _;have B2c:=B2.out;obtain ⟨w3,ec,B3,oc⟩:=xw (P:=Tryz.prog) B2c 108 0 111 (.agg #[.string ⟨#[]⟩,.string ⟨#[]⟩,.int .i64 0]) ((n-1)*3) (c-(n-1)) Tryz.underlying108 Tryz.zeroValue111 ln.out (by simp; decide);rw [HDC.out] at B3;have EC:=xh ec;have B3:=xh B3;have OC:=xh (OA.out.trans oc);clear ec oc B2c;go_wp2_with fail;rw [EC.out];go_wp2_with fail;go_ret
  exact ⟨by first | rfl | simp,⟨by rw [an,vE.out],.inr ⟨g,c,_,rfl,B3.out,by rw [HRL.out],HCM.out⟩⟩,by simpa [ah] using (ag.refl [g] w).drew.trans OC.out⟩
 ·have s11: ¬c=i+1:=Cc;refine wp_region_held_drew (S:=fun _=>True) (by kernel_rfl) (trivial) (fun aj=>?_);refine bR [(0,20),(1,21),(2,22),(3,23),(4,24),(5,25)] ?_
  iterate 6 (refine zt ?_; try simp only [Act.put,pa,pb,pc])
  refine bS ?_;refine cA (i:=6) (o:=⟨some 26,_,_,_,_,_⟩) fun K hK=>?_;go_simp;obtain ⟨w2,ea,B2,oa⟩:=xu (P:=Tryz.prog) BD.out.drew 108 108 111 3 i c ⟨g,(i+1)*3,none⟩ (n-(i+1)) (c-(i+1)) (aw (l.drop (i+1))) Tryz.underlying108 kE (by rw [an,List.length_drop,lB.out]) (Hh _ (fun h=>by first | rfl | (have:=HN.out; omega))) (by omega) (by rw [an,List.length_drop,lB.out]; simp only [List.length_append,an,lB.out]; have:=IP.out; omega) (iW _)
  rw [show i+(n-(i+1))=n-1 by omega] at ea;have EA:=xh ea;have B2:=xh B2;have OA:=xh oa;clear ea oa;rw [EA.out];go_simp;refine hK.out _ _ (trivial) (fun aj=>?_)
  try simp only [Act.put,pa,pb,pc]
  refine bR [(7,0)] ?_
  iterate 1 (refine zt ?_; try simp only [Act.put,pa,pb,pc])
  refine bS ?_;refine wpAnyH_done (by kernel_rfl) ?_ _;have B2c:=B2.out;obtain ⟨w3,ec,B3,oc⟩:=xw (P:=Tryz.prog) B2c 108 0 111 (.agg #[.string ⟨#[]⟩,.string ⟨#[]⟩,.int .i64 0]) ((n-1)*3) (c-(n-1)) Tryz.underlying108 Tryz.zeroValue111 ln.out (by simp; decide);rw [HDC.out] at B3;have EC:=xh ec;have B3:=xh B3;have OC:=xh (OA.out.trans oc);clear ec oc B2c;go_wp2_with fail;rw [EC.out];go_wp2_with fail;go_ret
  exact ⟨by first | rfl | simp,⟨by rw [an,vE.out],.inr ⟨g,c,_,rfl,B3.out,by rw [HRL.out],HCM.out⟩⟩,by simpa [ah] using (ag.refl [g] w).drew.trans OC.out⟩
theorem mY:(Tryz.prog.info? 111).map (fun i=>(i.zero,i.size,i.bytes))=some (some (.agg #[.string ⟨#[]⟩,.string ⟨#[]⟩,.int .i64 0]),3,40):=by kernel_rfl
theorem qQ (e:E): ∀v∈e.cells,v.oneCell'=true:=fun v hv=>by
 have:=iW [e] v (by simpa [aw] using hv);exact this
theorem sD {α:Type} (e:α): ∀(l:List α) (i:Nat),i≤l.length→l.insertIdx i e=l.take i++e::l.drop i
 | _,0,_=>by simp
 | [],i+1,h=>absurd h (by simp)
 | a::l,i+1,h=>by
  rw [List.insertIdx_succ_cons,sD e l i (by simpa using h)];rfl
theorem LM (l:List E) (e:E) (rest:List Value) (i:Nat) (hi:i≤l.length) (hr:3≤rest.length):
  putAt (putAt (aw l++rest) ((i+1)*3) (aw (l.drop i))) (i*3) e.cells=aw (l.insertIdx i e)++rest.drop 3:=by
 have e0:e.cells.length=3:=rfl;have e1:l.insertIdx i e=l.take i++e::l.drop i:=sD e l i hi;have e2:(aw (l.take i)).length=i*3:=by rw [an,List.length_take]; omega
 have e3:(aw (l.drop i)).length=(l.length-i)*3:=by rw [an,List.length_drop]
 have e5:(aw l++rest)=aw (l.take i)++(aw (l.drop i)++rest):=by rw [←List.append_assoc,←eE,List.take_append_drop]
 have hlen:(aw l++rest).length=l.length*3+rest.length:=by rw [List.length_append,an]
 have a1:(putAt (aw l++rest) ((i+1)*3) (aw (l.drop i))).take (i*3)=aw (l.take i):=by
  unfold putAt;rw [List.append_assoc,List.take_append_of_le_length (by rw [List.length_take,hlen]; omega),List.take_take,Nat.min_eq_left (by omega),e5,←e2,List.take_left]
 have a2:(putAt (aw l++rest) ((i+1)*3) (aw (l.drop i))).drop (i*3+3)=aw (l.drop i)++rest.drop 3:=by
  unfold putAt;rw [List.append_assoc,show i*3+3=((aw l++rest).take ((i+1)*3)).length by rw [List.length_take,hlen]; omega,List.drop_left]
  congr 1
  rw [e3,List.drop_append,List.drop_eq_nil_of_le (by rw [an]; omega),List.nil_append,an]
  congr 1
  omega
 rw [e1,eE,iB,List.append_assoc,List.append_assoc,←a1,←a2];rw [show putAt (putAt (aw l++rest) ((i+1)*3) (aw (l.drop i))) (i*3) e.cells=(putAt (aw l++rest) ((i+1)*3) (aw (l.drop i))).take (i*3)++e.cells++(putAt (aw l++rest) ((i+1)*3) (aw (l.drop i))).drop (i*3+e.cells.length) from rfl,e0,List.append_assoc]
theorem AQ {w:World} {A:Option Addr} {n c:Nat} {l:List E} (S:aG w 111 3 (.slice A n c) n (aw l)) (e:E) {g2 cc:Nat} (B2:ax w g2 111 e.cells.toArray) (hn:n≤100000):
  Calls Tryz.prog 74 #[.slice A n c,.int .i64 (n:Nat),.slice (some ⟨g2,0,none⟩) 1 cc] w fun r w'=> ∃A' c',r= .returned (.slice A' (n+1) c')∧aG w' 111 3 (.slice A' (n+1) c') (n+1) (aw (l++[e]))∧ag (ah (.slice A n c)) w w'∧ ∀x∈ah (.slice A' (n+1) c'),x∈ah (.slice A n c)∨w.heap.size≤x:=by
 obtain ⟨i0,hi,iL,gM,iw⟩:=info_parts mY;have hl:=S.1;rw [an] at hl;obtain ⟨v',w',ea,S2,o2,f2⟩:=cN (P:=Tryz.prog) S 108 108 i0 _ 40 Tryz.underlying108 hi iL gM iw rfl (by omega) ⟨g2,0,none⟩ 1 cc e.cells rfl (aV (l:=e.cells) B2 0 _ (by simp)) (qQ e) (by unfold maxLen; omega) (by omega);obtain ⟨A',c',rfl⟩:=aq S2;have EA:=xh (show dI Tryz.prog 108 108 w (.slice A n c) (.slice (some ⟨g2,0,none⟩) 1 cc)=_ from ea);have S2:=xh S2
 have o2:=xh o2;have f2:=xh f2;have HC:A=none∧n=0∧c=0∨ ∃g,A=some ⟨g,0,none⟩∧n≤c∧c≤maxLen:=by
  rcases S.2 with ⟨h1,h2⟩ | ⟨g,cap,rest,h1,h2,h3,h4⟩
  ·injection h1 with a1 a2 a3
   exact .inl ⟨a1,a2,a3⟩
  ·injection h1 with a1 a2 a3
   subst a3;refine .inr ⟨g,a1,?_,h4⟩;rw [an] at h3;omega
 have s1:(n:Int)≤(n:Int):=by omega
 clear S B2 ea hi iL gM iw;have HC:A=none∧n=0∧c=0∨(∃g,A=some ⟨g,0,none⟩∧c=n∧c≤maxLen)∨ ∃g,A=some ⟨g,0,none⟩∧ ¬c=n∧n≤c∧c≤maxLen:=by
  rcases HC with h | ⟨g,h1,h2,h3⟩
  ·exact .inl h
  ·by_cases hc:c=n
   ·exact .inr (.inl ⟨g,h1,hc,h3⟩)
   ·exact .inr (.inr ⟨g,h1,hc,h2,h3⟩)
 rcases HC with ⟨rfl,rfl,rfl⟩ | ⟨g,rfl,rfl,hc2⟩ | ⟨g,rfl,IG,Cc,hc2⟩
 all_goals
  (try have hc1I:(n:Int)≤(c:Int):=by omega)
  go_enter Tryz.func74,Tryz.ntmps74;go_wp2_with fail;rw [EA.out];go_wp2_with fail;go_ret;exact ⟨A',c',by first | rfl | simp,by rw [eE]; simpa [aw] using S2.out,o2.out,f2.out⟩
theorem xx {w:World} {g:Nat} {t:TypeId} {cs:Array Value} (B:ax w g t cs):w.shape? g=some (t,cs.size):=by
 obtain ⟨lo,hi,h,_⟩:=B;unfold World.shape?;rw [h]
theorem sz_ent (w:World):(Go.sizeOf 111).run Tryz.prog w= .ok 3 w:=by
 obtain ⟨i0,hi,iL,gM,iw⟩:=info_parts mY;simp [sizeOf,typeInfo,hi,gM]
theorem AR {w:World} {g1 g2:Nat} {t1 t2:TypeId} {c1 c2:Array Value} (B1:ax w g1 t1 c1) (B2:ax w g2 t2 c2) (eg:g1≠g2) (h0:c2.size≠0) (hc:c1.size≠0) (hz:w.frozen? ⟨g1,c1.size,none⟩=false) (o2 la ca lb cb:Nat):
  (callFunc 125 #[.slice (some ⟨g1,0,none⟩) la ca,.slice (some ⟨g2,o2,none⟩) lb cb]).run Tryz.prog w= .ok (.value (.bool false)) w:=by
 rw [run_callFunc_extern Tryz.func125 (by kernel_rfl) (by kernel_rfl) (by kernel_rfl) (e:=Extern.SlicesOverlaps.overlaps #[108,108] #[4]) (by kernel_rfl),
  Lib.run_overlaps_apart w 108 4 111 Tryz.underlying108 3 sz_ent ⟨g1,0,none⟩ ⟨g2,o2,none⟩ la ca lb cb eg t1 t2 c1.size c2.size (xx B1) (xx B2) h0 (B1.frozen 0 (by omega)) hz]
 rfl
theorem yQ {w:World} {A:Option Addr} {n c:Nat} {l:List E} (S:aG w 111 3 (.slice A n c) n (aw l)) (e:E) {g2 cc:Nat} (B2:ax w g2 111 e.cells.toArray) (hn:n≤100000) (hg:g2∉ah (.slice A n c)) (i:Nat) (hi:i<n) (hf:w.frozen? ⟨g2,3,none⟩=false) (hc:n+1≤c):
  Calls Tryz.prog 74 #[.slice A n c,.int .i64 (i:Nat),.slice (some ⟨g2,0,none⟩) 1 cc] w fun r w'=> ∃A' c',r= .returned (.slice A' (n+1) c')∧aG w' 111 3 (.slice A' (n+1) c') (n+1) (aw (l.insertIdx i e))∧ag (ah (.slice A n c)) w w'∧ ∀x∈ah (.slice A' (n+1) c'),x∈ah (.slice A n c)∨w.heap.size≤x:=by
 obtain ⟨g,cap,rest,hv,BG,hcn,GR⟩:=S.form (by omega) (by omega);simp only [Value.slice.injEq,true_and] at hv;obtain ⟨rfl,rfl⟩:=hv;have rl:c≤maxLen:=by obtain ⟨_,_,_,_,h⟩:=S.oM; exact h
 have oN:l.length=n:=by have:=S.1; rw [an] at this; omega
 have lB:=xh oN;have IP:=xh (show rest.length=c*3-n*3 by rw [an,oN] at GR; omega);have BD:=xh BG;have BE:=xh B2;have eg:g2≠g:=fun h=>hg (by simp [ah,h]);have HCM:=xh rl;have vE:=xh (show (l.insertIdx i e).length=n+1 from by rw [List.length_insertIdx,oN,if_pos (by omega)]);unfold maxLen at rl;clear S oN GR;have s1: ¬(i:Int)=(n:Int):=by omega
 have s2:(i:Int)≤(n:Int):=by omega
 have s3:(i:Int)≤(c:Int):=by omega
 have s4: ¬c=i:=by omega
 have s8:IntKind.i64.wrap ((i:Int)+1)=(i:Int)+1:=IntWalk.i64_in _ (by omega);have s9:IntKind.i64.wrap ((n:Int)+1)=(n:Int)+1:=IntWalk.i64_in _ (by omega);have s10:((i:Int)+1).toNat=i+1:=by omega
 have s11:((n:Int)+1).toNat=n+1:=by omega
 have s12:(0:Int)≤(i:Int)+1:=by omega
 have s13:(0:Int)≤(n:Int)+1:=by omega
 have s14:(i:Int)+1≤(n:Int)+1:=by omega
 have s15:(i:Int)≤(n:Int)+1:=by omega
 have Hh:=xh (show ∀j v,(aw (l.drop i))[j]?=some v→w.drew.cell? ((⟨g,i*3,none⟩:Addr).add j)=some v from fun j v hv=>by
  rw [eX];refine (BD.out.drew.cell _).trans ?_;rw [←jy,List.getElem?_drop] at hv;rw [List.getElem?_toArray,List.getElem?_append_left (List.getElem?_eq_some_iff.1 hv).1,hv])
 have hov:=fun la ca lb cb=>AR (w:=w) B2 BG eg (by simp [an]; have:=lB.out; omega) (by show 3≠0; decide) (by rw [show e.cells.toArray.size=3 from rfl]; exact hf) ((i+1)*3) la ca lb cb;have s16:(n:Int)+1≤(c:Int):=by omega
 have s17: ¬(c:Int)<(n:Int)+1:=by omega
 have s18: ¬c=i+1:=by omega
 have s19:(i:Int)+1≤(c:Int):=by omega
 clear B2 BG hf hg;go_enter Tryz.func74,Tryz.ntmps74;go_wp2_with (simp only [hov]);refine wp_region_held_drew (S:=fun _=>True) (by kernel_rfl) (trivial) (fun aj=>?_);refine bR [(0,69),(1,70),(2,71),(3,72),(4,73),(5,74),(6,75),(7,76)] ?_
 iterate 8 (refine zt ?_; try simp only [Act.put,pa,pb,pc])
 refine bS ?_;refine cA (i:=8) (o:=⟨some 77,_,_,_,_,_⟩) fun K hK=>?_;go_simp;obtain ⟨w2,ea,B3,oa⟩:=pK (P:=Tryz.prog) BD.out.drew 108 3 111 3 ((i+1)*3) (n-i) (c-(i+1)) ⟨g,i*3,none⟩ (n+1-i) (c-i) (aw (l.drop i)) Tryz.underlying108 kE (by rw [an,List.length_drop,lB.out,show Nat.min (n+1-i) (n-i)=n-i from by simp only [Nat.min_def]; split<;>omega]) Hh.out (by rw [an,List.length_drop,List.length_append,an,lB.out,IP.out]; omega) (iW _)
 have EA:=xh ea;have B3:=xh B3;have OA:=xh oa;clear ea oa;rw [EA.out];go_simp;refine hK.out _ _ (trivial) (fun aj=>?_)
 try simp only [Act.put,pa,pb,pc]
 refine wpAnyH_done (by kernel_rfl) ?_ _;have BE3:=BE.out.drew.only OA.out (by simpa using eg)
 obtain ⟨w3,eb,B4,ob⟩:=pK (P:=Tryz.prog) B3.out 108 3 111 3 (i*3) (n+1-i) (c-i) ⟨g2,0,none⟩ 1 cc e.cells Tryz.underlying108 kE (by show 3=_; rw [show Nat.min 1 (n+1-i)=1 from by simp only [Nat.min_def]; split<;>omega]) (aV (l:=e.cells) BE3 0 _ (by simp)) (by rw [hX (by rw [an,List.length_drop,List.length_append,an,lB.out,IP.out]; omega),List.length_append,an,lB.out,IP.out]; show i*3+3≤_; omega) (qQ e)
 rw [LM l e rest i (by rw [lB.out]; omega) (by rw [IP.out]; omega)] at B4;have EB:=xh eb;have B4:=xh B4;have OB:=xh (OA.out.trans ob);clear eb ob BE3;go_wp2_with fail;rw [EB.out];go_wp2_with fail;go_ret;exact ⟨_,_,by first | rfl | simp,⟨by rw [an,vE.out],.inr ⟨g,c,_,rfl,B4.out,by rw [an,vE.out,List.length_drop,IP.out]; omega,HCM.out⟩⟩,by simpa [ah] using (ag.refl [g] w).drew.trans OB.out,fun x hx=> .inl (by simpa [ah] using hx)⟩
noncomputable def yR (P:Program) (T U ty:TypeId) (w:World) (s x:Value):Result Value:=(Builtin.append_ #[T,U] ty #[s,x]).run P w
theorem Hi (P:Program) (ρ:Operand→Value) (dst:Option Tmp) (s x:Operand) (T U t:TypeId) (p:String) (af:Array Edge) (g:Option (Nat×Bool)) (w:World):
  (execOp ρ {dst:=dst,op:= .call {callee:= .builtin .append,args:= #[s,x],argTypes:= #[T,U]},type:=t,pos:=p,after:=af,guard:=g}).run P w=(yR P T U t w (ρ s) (ρ x)).andThen fun v w'=> .ok (.value v) w':=by
 simp [execOp,resolve,invoke,builtin,yR]
theorem AS {w:World} {g c:Nat} {l:List E} {rest:List Value} (B:ax w g 111 (aw l++rest).toArray) (i k:Nat) (hi:i≤l.length) (hk:0<k) (hc:c<i+k) (hm:i+k≤1000000):
  ∃w' G zs,yR Tryz.prog 108 3 108 w (.slice (some ⟨g,0,none⟩) i c) (.int .i64 (k:Nat))= .ok (.slice (some ⟨w.heap.size,0,none⟩) (i+k) G) w'∧ax w' w.heap.size 111 (aw (l.take i)++zs).toArray∧zs.length=(G-i)*3∧i+k≤G∧G≤maxLen∧Below w.heap.size w w':=by
 obtain ⟨i0,y8,iL,gM,iw⟩:=info_parts mY;have hold:(Builtin.firstCells i0.size i (.slice (some ⟨g,0,none⟩) i c)).run Tryz.prog w.drew= .ok (aw (l.take i)).toArray w.drew:=by
  rw [gM];exact run_firstCells_some w.drew 3 i ⟨g,0,none⟩ i c (aw (l.take i)) (by rw [an,List.length_take]; omega) (aV B.drew 0 _ (fun j v hv=>by
   rw [Nat.zero_add,List.getElem?_append_left]
   ·rw [←qM,List.getElem?_take] at hv
    split at hv
    ·exact hv
    ·cases hv
   ·have:=(List.getElem?_eq_some_iff.1 hv).1;rw [an,List.length_take] at this;rw [an];omega))
 have h:=Lib.run_append_grow_zeros w 108 3 108 111 i0 _ .i64 .i64 Tryz.underlying108 Tryz.underlying3 y8 iL (some ⟨g,0,none⟩) i c (aw (l.take i)) hold k hk (by omega) hc (by omega) (by rw [iw]; omega) (by rw [iw]; exact growslice_fits (by omega) (by omega));have hG:=grownCap_ge w (i+k) c 111;have hG2:=grownCap_le_maxLen w (i+k) c 111 (by unfold maxLen; omega);have hzc: ∀m,(Builtin.zeroCells (Value.agg #[.string ⟨#[]⟩,.string ⟨#[]⟩,.int .i64 0]).cells m).size=m*3:=fun m=>by
  simp [Builtin.zeroCells,Value.cells]
 generalize grownCap w (i+k) c 111=G at *;have hA: ∀(a b:Array Value),(aw (l.take i)).toArray++a++b=(aw (l.take i)++(a.toList++b.toList)).toArray:=fun a b=>by
  apply Array.toList_inj.1;simp
 rw [hA] at h;have hzl:((Builtin.zeroCells (Value.agg #[.string ⟨#[]⟩,.string ⟨#[]⟩,.int .i64 0]).cells k).toList++(Builtin.zeroCells (Value.agg #[.string ⟨#[]⟩,.string ⟨#[]⟩,.int .i64 0]).cells (G-(i+k))).toList).length=(G-i)*3:=by
  rw [List.length_append,Array.length_toList,Array.length_toList,hzc,hzc];omega
 generalize (Builtin.zeroCells (Value.agg #[.string ⟨#[]⟩,.string ⟨#[]⟩,.int .i64 0]).cells k).toList++(Builtin.zeroCells (Value.agg #[.string ⟨#[]⟩,.string ⟨#[]⟩,.int .i64 0]).cells (G-(i+k))).toList=ZS at *;refine ⟨_,G,ZS,h,?_,hzl,hG,hG2,?_⟩
 ·exact ax.new w.drew 111 _
 ·exact (Below.refl w.heap.size w).drew.alloc (Nat.le_refl _) _
theorem LP (l:List E) (e:E) (zs:List Value) (i:Nat) (hi:i<l.length) (hz:(l.length+1-i)*3≤zs.length):
  putAt (putAt (aw (l.take i)++zs) (i*3) e.cells) ((i+1)*3) (aw (l.drop i))=aw (l.insertIdx i e)++zs.drop ((l.length+1-i)*3):=by
 have e0:e.cells.length=3:=rfl;have e2:(aw (l.take i)).length=i*3:=by rw [an,List.length_take]; omega
 have e3:(aw (l.drop i)).length=(l.length-i)*3:=by rw [an,List.length_drop]
 have a1:putAt (aw (l.take i)++zs) (i*3) e.cells=(aw (l.take i)++e.cells)++zs.drop 3:=by
  unfold putAt;rw [←e2,List.take_left,e0,←List.drop_drop,List.drop_left]
 have a2:(aw (l.take i)++e.cells).length=(i+1)*3:=by rw [List.length_append,e2,e0]; omega
 rw [a1,sD e l i (by omega),eE,iB];have e4:zs.drop ((l.length+1-i)*3)=(zs.drop 3).drop ((l.length-i)*3):=by rw [List.drop_drop]; congr 1; omega
 unfold putAt;rw [←a2,List.take_left,←List.drop_drop,List.drop_left,e3,e4];simp only [List.append_assoc]
end
section
attribute [local go_sem ↓] Go.wp_at_zero Go.wp_at_succ Hi AO LL
theorem yS {w:World} {A:Option Addr} {n c:Nat} {l:List E} (S:aG w 111 3 (.slice A n c) n (aw l)) (e:E) {g2 cc:Nat} (B2:ax w g2 111 e.cells.toArray) (hn:n≤100000) (hg:g2∉ah (.slice A n c)) (i:Nat) (hi:i<n) (hc:c<n+1):
  Calls Tryz.prog 74 #[.slice A n c,.int .i64 (i:Nat),.slice (some ⟨g2,0,none⟩) 1 cc] w fun r w'=> ∃A' c',r= .returned (.slice A' (n+1) c')∧aG w' 111 3 (.slice A' (n+1) c') (n+1) (aw (l.insertIdx i e))∧ag (ah (.slice A n c)) w w'∧ ∀x∈ah (.slice A' (n+1) c'),x∈ah (.slice A n c)∨w.heap.size≤x:=by
 obtain ⟨g,cap,rest,hv,BG,hcn,GR⟩:=S.form (by omega) (by omega);simp only [Value.slice.injEq,true_and] at hv;obtain ⟨rfl,rfl⟩:=hv;have rl:c≤maxLen:=by obtain ⟨_,_,_,_,h⟩:=S.oM; exact h
 have oN:l.length=n:=by have:=S.1; rw [an] at this; omega
 have lB:=xh oN;have IP:=xh (show rest.length=c*3-n*3 by rw [an,oN] at GR; omega);have BD:=xh BG;have BE:=xh B2;have eg:g2≠g:=fun h=>hg (by simp [ah,h]);have HCM:=xh rl;have vE:=xh (show (l.insertIdx i e).length=n+1 from by rw [List.length_insertIdx,oN,if_pos (by omega)]);unfold maxLen at rl;clear S oN GR;have s1: ¬(i:Int)=(n:Int):=by omega
 have s2:(i:Int)≤(n:Int):=by omega
 have s3:(i:Int)≤(c:Int):=by omega
 have s4: ¬c=i:=by omega
 have s8:IntKind.i64.wrap ((i:Int)+1)=(i:Int)+1:=IntWalk.i64_in _ (by omega);have s9:IntKind.i64.wrap ((n:Int)+1)=(n:Int)+1:=IntWalk.i64_in _ (by omega);have s10:((i:Int)+1).toNat=i+1:=by omega
 have s11:((n:Int)+1).toNat=n+1:=by omega
 have s12:(0:Int)≤(i:Int)+1:=by omega
 have s13:(0:Int)≤(n:Int)+1:=by omega
 have s14:(i:Int)+1≤(n:Int)+1:=by omega
 have s15:(i:Int)≤(n:Int)+1:=by omega
 have Hh:=xh (show ∀W,ax W g 111 (aw l++rest).toArray→ ∀j v,(aw (l.drop i))[j]?=some v→W.cell? ((⟨g,i*3,none⟩:Addr).add j)=some v from fun W BW j v hv=>by
  rw [eX];refine (BW.cell _).trans ?_;rw [←jy,List.getElem?_drop] at hv;rw [List.getElem?_toArray,List.getElem?_append_left (List.getElem?_eq_some_iff.1 hv).1,hv])
 obtain ⟨w2,G,zs,ea,B3,hz,hG,hG2,bT⟩:=AS (c:=c) BG i (n+1-i) (by rw [lB.out]; omega) (by omega) (by omega) (by omega);rw [show i+(n+1-i)=n+1 by omega] at ea hG;have EA:=xh ea;have B3:=xh B3;have HZ:=xh hz;have G9:=xh bT;have BE2:=xh (BE.out.below bT BE.out.lt);have BG2:=xh (BD.out.below bT BD.out.lt);have HGW:=xh (show g<w.heap.size∧g2<w.heap.size from ⟨BD.out.lt,BE.out.lt⟩);have s17:(c:Int)<(n:Int)+1:=by omega
 have s20:(n:Int)+1-(i:Int)=((n+1-i:Nat):Int):=by omega
 have s21:IntKind.i64.wrap (((n+1-i:Nat):Int))=((n+1-i:Nat):Int):=IntWalk.i64_in _ (by omega);have s22: ¬G=i:=by omega
 have s23: ¬G=i+1:=by omega
 have s24:(n:Int)+1≤(G:Int):=by omega
 have s25:(i:Int)≤(G:Int):=by omega
 have s26:(i:Int)+1≤(G:Int):=by omega
 unfold maxLen at hG2;have HG2:=xh hG2;clear B2 BG hg ea hz bT;go_enter Tryz.func74,Tryz.ntmps74;go_wp2_with fail;rw [EA.out]
 obtain ⟨w3,eb,B4,oa⟩:=pK (P:=Tryz.prog) B3.out 108 3 111 3 (i*3) (n+1-i) (G-i) ⟨g2,0,none⟩ 1 cc e.cells Tryz.underlying108 kE (by show 3=_; rw [show Nat.min 1 (n+1-i)=1 from by simp only [Nat.min_def]; split<;>omega]) (aV (l:=e.cells) BE2.out 0 _ (by simp)) (by rw [List.length_append,an,List.length_take,lB.out,HZ.out]; show i*3+3≤_; omega) (qQ e);have EB:=xh eb;have B4:=xh B4;have HBG:=xh (BG2.out.only oa (by simp; have:=HGW.out; omega))
 have OA:=xh oa;have HFT:=xh (show (i+1)*3+(aw (l.drop i)).length≤(putAt (aw (l.take i)++zs) (i*3) e.cells).length from by
  rw [hX (by rw [List.length_append,an,List.length_take,lB.out,HZ.out]; show i*3+3≤_; omega),List.length_append,an,an,List.length_take,List.length_drop,lB.out,HZ.out];omega)
 clear eb oa;go_wp2_with fail;rw [EB.out];go_wp2_with fail;refine wp_region_held_drew (S:=fun _=>True) (by kernel_rfl) (trivial) (fun aj=>?_);refine bR [(0,46),(1,47),(2,48),(3,49),(4,50),(5,51),(6,52),(7,53)] ?_
 iterate 8 (refine zt ?_; try simp only [Act.put,pa,pb,pc])
 refine bS ?_;refine cA (i:=8) (o:=⟨some 54,_,_,_,_,_⟩) fun K hK=>?_;go_simp;obtain ⟨w4,eb,B5,ob⟩:=pK (P:=Tryz.prog) B4.out.drew 108 3 111 3 ((i+1)*3) (n-i) (G-(i+1)) ⟨g,i*3,none⟩ (n-i) (c-i) (aw (l.drop i)) Tryz.underlying108 kE (by rw [an,List.length_drop,lB.out,show Nat.min (n-i) (n-i)=n-i from Nat.min_self _]) (Hh.out _ HBG.out.drew) HFT.out (iW _);have EB:=xh eb;have B5:=xh B5;have OB:=xh ob;clear eb ob;rw [EB.out];go_simp
 refine hK.out _ _ (trivial) (fun aj=>?_)
 try simp only [Act.put,pa,pb,pc]
 refine wpAnyH_done (by kernel_rfl) ?_ _;have B6:=B5.out;rw [LP l e zs i (by rw [lB.out]; omega) (by rw [lB.out,HZ.out]; omega)] at B6;have B6:=xh B6;have OC:=xh (G9.out.mono (Nat.le_refl _));go_wp2_with fail;go_ret;refine ⟨_,_,by first | rfl | simp,⟨by rw [an,vE.out],.inr ⟨w.heap.size,G,_,rfl,B6.out,by rw [an,vE.out,List.length_drop,HZ.out,lB.out]; omega,HG2.out⟩⟩,?_,fun x hx=> .inr (by simp [ah] at hx; omega)⟩
 have o4:=((ag.refl [w.heap.size] w3).drew).trans OB.out;exact ((ag.ak (S:=[]) G9.out).aS (OA.out.trans o4) (fun x hx dL=>by simp at hx; omega)).mono (fun x hx _=>by simp at hx)
end
attribute [local go_sem ↓] Go.wp_at_zero Go.wp_at_succ aX AO LL
theorem mj {w:World} {A:Option Addr} {n c:Nat} {l:List E} (S:aG w 111 3 (.slice A n c) n (aw l)) (e:E) {g2 cc:Nat} (B2:ax w g2 111 e.cells.toArray) (hn:n≤100000) (hg:g2∉ah (.slice A n c)) (i:Nat) (hi:i≤n) (hf:w.frozen? ⟨g2,3,none⟩=false):
  Calls Tryz.prog 74 #[.slice A n c,.int .i64 (i:Nat),.slice (some ⟨g2,0,none⟩) 1 cc] w fun r w'=> ∃A' c',r= .returned (.slice A' (n+1) c')∧aG w' 111 3 (.slice A' (n+1) c') (n+1) (aw (l.insertIdx i e))∧ag (ah (.slice A n c)) w w'∧ ∀x∈ah (.slice A' (n+1) c'),x∈ah (.slice A n c)∨w.heap.size≤x:=by
 have hl:=S.1;rw [an] at hl
 rcases Nat.lt_or_ge i n with h | h
 ·rcases Nat.lt_or_ge c (n+1) with h1 | h1
  ·exact yS S e B2 hn hg i h h1
  ·exact yQ S e B2 hn hg i h hf h1
 ·obtain rfl:i=n:=by omega
  have:=AQ S e (cc:=cc) B2 hn
  rwa [show l++[e]=l.insertIdx i e from by rw [sD e l i (by omega),List.take_of_length_le (by omega),List.drop_eq_nil_of_le (by omega)]] at this
theorem D7 {w:World} {A:Option Addr} {n c:Nat} {l:List E} (S:aG w 111 3 (.slice A n c) n (aw l)) (hn:n≤100000) (h0:0<n):
  Calls Tryz.prog 217 #[.slice A n c] w fun r w'=> ∃g c',r= .returned (.slice (some ⟨g,0,none⟩) n c')∧aG w' 111 3 (.slice (some ⟨g,0,none⟩) n c') n (aw l)∧Below w.heap.size w w'∧w.heap.size≤g:=by
 obtain ⟨g,cap,rest,hv,BG,hcn,GR⟩:=S.form h0 (by omega);simp only [Value.slice.injEq,true_and] at hv;obtain ⟨rfl,rfl⟩:=hv;obtain ⟨i0,hi,iL,gM,iw⟩:=info_parts mY;have hl:=S.1;rw [an] at hl;have BN:=ax.new w 111 #[];have S0:aG (w.alloc (.cells #[] 111)) 111 3 (.slice (some ⟨w.heap.size,0,none⟩) 0 0) 0 []:=⟨rfl,.inr ⟨w.heap.size,0,[],rfl,BN,rfl,by unfold maxLen; omega⟩⟩;have BG2:=BG.alloc (.cells #[] 111)
 obtain ⟨v',w',ea,S2,o2,f2⟩:=cN (P:=Tryz.prog) S0 108 108 i0 _ 40 Tryz.underlying108 hi iL gM iw rfl (by omega) ⟨g,0,none⟩ n c (aw l) (by rw [an]; exact hl) (aV BG2 0 _ (fun j v hj=>by rw [Nat.zero_add,List.getElem?_append_left (List.getElem?_eq_some_iff.1 hj).1]; exact hj)) (iW l) (by unfold maxLen; omega) (by omega);rw [List.nil_append,Nat.zero_add] at S2;obtain ⟨gg,cc,_,rfl,_,_⟩:=S2.form h0 (by omega)
 have EA:=xh (show dI Tryz.prog 108 108 (w.alloc (.cells #[] 111)) (.slice (some ⟨w.heap.size,0,none⟩) 0 0) (.slice (some ⟨g,0,none⟩) n c)=_ from ea);have G5:w.heap.size≤gg:=by
  rcases f2 gg (by simp [ah]) with h | h
  ·simp [ah] at h; omega
  ·simp at h; omega
 have hb:Below w.heap.size w w':=((Below.refl w.heap.size w).alloc (Nat.le_refl _) _).trans (o2.ay (by simp) (fun x hx=>by simp [ah] at hx; omega));have S2:=xh S2;have hb:=xh hb;have G5:=xh G5;have HE:=Lib.run_eql_slice_nil (P:=Tryz.prog) w 108 111 (some ⟨g,0,none⟩) n c 0 0 Tryz.underlying108;clear BG BG2 BN S0 S ea o2 f2 hi iL gM iw hl GR;go_enter Tryz.func217,Tryz.ntmps217;go_wp2_with fail;rw [EA.out];go_wp2_with fail;go_ret
 exact ⟨gg,cc,by first | rfl | simp,S2.out,hb.out,G5.out⟩
end Nd
end Go.Proofs.YtmonobkginiajaaGreat
namespace Go.Proofs.YtmonobkginiajaaGreat.Sh
open Go.RowKit Pk Dk Pg
open Nd (E aw aT aF aJ cM)
attribute [local go_sem ↓] Go.wp_at_zero Go.wp_at_succ
def r5 (e:Int):Int:=if e=3∨e=6 then 14 else e
def QS.bl (q:QS) (p:Int):QS×Bool×List E×Int:=
 if (q.cO p).2.2≠0 then ((q.cO p).1,false,[],r5 (q.cO p).2.2)
 else ((q.cO p).1,(aF (q.cO p).2.1.data.toList).1,(aF (q.cO p).2.1.data.toList).2.1,r5 (aF (q.cO p).2.1.data.toList).2.2)
def blank (leaf:Bool) (l:List E):List E:=match leaf,l with
 | false,e::r=>{e with key:=⟨#[]⟩}::r
 | _,l=>l
def aY (leaf:Bool) (l:List E):List UInt8×Int:=aJ leaf (blank leaf l)
def QS.cg (q:QS) (p:Int) (leaf:Bool) (l:List E):QS×Int:=if (aY leaf l).2≠0 then (q,(aY leaf l).2) else q.cL p ⟨(aY leaf l).1.toArray⟩
def QS.dh (q:QS) (leaf:Bool) (l:List E):QS×Int×Int:=if (aY leaf l).2≠0 then (q,0,(aY leaf l).2) else q.bm (aY leaf l).1
def tp (b:Nat):Value:= .pointer (some ⟨b,0,none⟩)
def TQ (w:World) (tb:Nat) (I:Ix) (F:List Nat) (q:QS) (n K:Nat):Prop:=ax w tb 130 #[pp I.pb]∧PQ w I F q n K
section
variable {w w':World} {tb:Nat} {I:Ix} {F S:List Nat} {q q':QS} {n K:Nat}
theorem TQ.ne (h:TQ w tb I F q n K):tb∉F:=h.2.iR h.1 (by decide) (by decide) (by decide) (by decide) (by decide) (by decide) (by decide) (by decide) (by decide)
theorem TQ.below (h:TQ w tb I F q n K) (hb:Below w.heap.size w w'):TQ w' tb I F q n K:=⟨h.1.below hb h.1.lt,h.2.below hb⟩
theorem TQ.only (h:TQ w tb I F q n K) (o:ag S w w') (hd: ∀g∈tb::F,g∉S):TQ w' tb I F q n K:=⟨h.1.only o (hd _ (List.mem_cons_self ..)),h.2.only o (fun g hg=>hd g (List.mem_cons_of_mem _ hg))⟩
theorem TQ.lt (h:TQ w tb I F q n K): ∀g∈tb::F,g<w.heap.size:=fun g hg=>(List.mem_cons.1 hg).elim (fun e=>by rw [e]; exact h.1.lt) (h.2.lt g)
theorem TQ.le (h:TQ w tb I F q n K) {K':Nat} (hk:K≤K'):TQ w tb I F q n K':=⟨h.1,h.2.le hk⟩
theorem TQ.next (h:TQ w tb I F q n K) {K':Nat} (o:ag F w w') (p:PQ w' I F q' n K'):TQ w' tb I F q' n K':=⟨h.1.only o h.ne,p⟩
end
theorem jq (l:List E):(aw l).length=l.length*3:=Nd.an l
theorem uI (e:Int) (w:World):Calls Tryz.prog 112 #[.int .i64 e] w fun r w'=>r= .returned (.int .i64 (r5 e))∧w=w':=by
 unfold r5
 by_cases h3:e=3
 ·subst h3;go_enter Tryz.func112,Tryz.ntmps112;go_wp2_with fail;go_ret;exact ⟨by first | rfl | simp,rfl⟩
 ·have q3:(e==3)=false:=by rw [beq_eq_false_iff_ne]; exact h3
  by_cases h6:e=6
  ·subst h6;go_enter Tryz.func112,Tryz.ntmps112;go_wp2_with fail;go_ret;exact ⟨by first | rfl | simp,rfl⟩
  ·have q6:(e==6)=false:=by rw [beq_eq_false_iff_ne]; exact h6
   rw [if_neg (by omega)];go_enter Tryz.func112,Tryz.ntmps112;go_wp2_with fail;go_ret;exact ⟨by first | rfl | simp,rfl⟩
theorem yT {w:World} {g:Nat} {b b':Bool} {v v':Value} (B:ax w g 118 #[.bool b,v]):
  ax ((w.setCell ⟨g,0,none⟩ (.bool b')).setCell ⟨g,1,none⟩ v') g 118 #[.bool b',v']∧ag [g] w ((w.setCell ⟨g,0,none⟩ (.bool b')).setCell ⟨g,1,none⟩ v')∧
   w.cell? ⟨g,0,none⟩=some (.bool b)∧w.cell? ⟨g,1,none⟩=some v∧w.frozen? ⟨g,0,none⟩=false∧w.frozen? ⟨g,1,none⟩=false:=
 ⟨(B.bq 0 _).bq 1 _,((ag.refl _ _).setCell (by simp) _).setCell (by simp) _,B.ab rfl,B.ab rfl,B.frozen 0 (by simp),B.frozen 1 (by simp)⟩
theorem kF {w:World} {tb:Nat} {I:Ix} {F:List Nat} {q:QS} {n K:Nat} (h:TQ w tb I F q n K) (hK:K≤999999999999) (p:Int):
  Calls Tryz.prog 70 #[tp tb,.int .i64 p] w fun e w'=> ∃A c,e= .returned (.tuple #[aT (q.bl p).2.1 A (q.bl p).2.2.1.length c,.int .i64 (q.bl p).2.2.2])∧
   aG w' 111 3 (.slice A (q.bl p).2.2.1.length c) (q.bl p).2.2.1.length (aw (q.bl p).2.2.1)∧(∀g∈ah (.slice A (q.bl p).2.2.1.length c),w.heap.size≤g)∧PQ w' I F (q.bl p).1 n (K+1)∧ag F w w':=by
 have O0:=xh (ae (Below.refl w.heap.size w) (.cells #[.bool false,.slice none 0 0] 118));have B0:=xh (ax.new w 118 #[.bool false,.slice none 0 0]);have T0:=h.below O0.out;have p0:=T0.1.ab (i:=0) rfl;have NQ:=xh (show w.heap.size∉F from fun hm=>by have:=h.2.lt _ hm; omega);have KG:=xh (pA T0.2 hK p);have KB:=xh uI;have hgs:=fun h0=>ud h.2.wp (p:=p) h0;unfold QS.bl;generalize q.cO p=R at *;obtain ⟨q1,s,er⟩:=R;dsimp only at *
 clear h T0;unfold pp tp aT at *
 by_cases he:er=0
 ·subst he;have hs:=hgs rfl;rw [if_neg (by simp)];have KN:=xh (fun (W:World)=>Nd.LJ s W (by omega));generalize aF s.data.toList=G at *;obtain ⟨leaf,l,er⟩:=G;dsimp only at *;unfold aT at *;clear hgs hs;go_enter Tryz.func70,Tryz.ntmps70;go_wp2_with fail;refine KG.out.mono ?_;rintro e w1 ⟨rfl,P1,o1⟩;have P1:=xh P1;have B1:=xh (B0.out.only o1 NQ.out);have o1:=xh o1;clear p0;go_wp2_with fail;refine (KN.out _).mono ?_;rintro e w2 ⟨A,c,rfl,S2,f2,bT⟩
  have S2:=xh S2;have f2:=xh f2;have P2:=xh (P1.out.below bT);have B2:=xh (B1.out.below bT B1.out.lt);have O2:=xh (o1.out.trans (.ak bT));clear bT;go_wp2_with fail;have NE:=xh (show ¬w2.heap.size=w.heap.size from by have:=O2.out.size; simp at this; omega);have C3:=xh (ax.new w2 118 #[.bool leaf,.slice A l.length c]);have B3:=xh (B2.out.alloc (.cells #[.bool leaf,.slice A l.length c] 118))
  have S3:=xh (S2.out.alloc (.cells #[.bool leaf,.slice A l.length c] 118));have fj:=ae (Below.refl w2.heap.size w2) (.cells #[.bool leaf,.slice A l.length c] 118);have P3:=xh (P2.out.below fj);have O3:=xh (O2.out.trans (.ak fj));have f3:=xh (show ∀g∈ah (.slice A l.length c),w.heap.size≤g∧g≠w.heap.size from fun g hg=>by have h1:=f2.out g hg; have h2:=o1.out.size; simp at h2; omega);clear fj
  generalize w2.alloc (.cells #[.bool leaf,.slice A l.length c] 118)=w3 at *;generalize w2.heap.size=g2 at *;have C3d:=xh C3.out.drew;have KS:=xh (And.intro (C3d.out.ab (i:=0) rfl) (C3d.out.ab (i:=1) rfl));clear C3;have C3:=C3d;have B3:=xh B3.out.drew;have S3:=xh S3.out.drew;have P3:=xh P3.out.drew;have O3:=xh O3.out.drew
  refine wp_region_held_drew (S:=fun W=>W.cell? ⟨g2,0,none⟩=some (.bool leaf)∧W.cell? ⟨g2,1,none⟩=some (.slice A l.length c)) (by kernel_rfl) (KS.out) (fun aj=>?_);generalize w3.drew=w4 at *;refine bR [(0,28),(1,29)] ?_
  iterate 2 (refine zt ?_; try simp only [Act.put,pa,pb,pc])
  refine bS ?_;refine cA (i:=2) (o:=⟨some 30,_,_,_,_,_⟩) fun K hK=>?_;go_simp
  go_at_call 112
  refine (KB.out _ _).mono ?_;rintro e w5 ⟨rfl,rfl⟩;go_simp;refine hK.out _ _ (KS.out) (fun aj=>?_)
  try simp only [Act.put,pa,pb,pc]
  refine cA (i:=3) (o:=⟨none,_,_,_,_,_⟩) fun K hK=>?_;go_simp;obtain ⟨B4,o4,d0,d1,z0,z1⟩:=yT (b':=leaf) (v':= .slice A l.length c) B3.out;have B4:=xh B4;have C4:=xh (C3.out.only o4 (by simpa using NE.out));have KS4:=xh (And.intro (C4.out.ab (i:=0) rfl) (C4.out.ab (i:=1) rfl));have o4:=xh o4;go_simp;refine hK.out _ _ (KS4.out) (fun aj=>?_)
  try simp only [Act.put,pa,pb,pc]
  refine bR [(4,5)] ?_
  iterate 1 (refine zt ?_; try simp only [Act.put,pa,pb,pc])
  refine bS ?_;refine wpAnyH_done (by kernel_rfl) ?_ _;go_wp2_with fail;exact bodyPost_ret (Nd.dV rfl rfl B4.out) rfl ⟨A,c,rfl,S3.out.only o4.out (fun g hg hm=>(f3.out g hg).2 (by simpa using hm)),fun g hg=>(f3.out g hg).1,P3.out.aH o4.out NQ.out,jt (((ag.ak (S:=w.heap.size::F) O0.out).trans (ju O3.out)).trans (jw o4.out)) (Nat.le_refl _)⟩
 ·rw [if_pos he];have hq:(er != 0)=true:=by rw [bne_iff_ne]; exact he
  have jm:(er==0)=false:=by rw [beq_eq_false_iff_ne]; exact he
  clear hgs;go_enter Tryz.func70,Tryz.ntmps70;go_wp2_with fail;refine KG.out.mono ?_;rintro e w1 ⟨rfl,P1,o1⟩;have P1:=xh P1;have B1:=xh (B0.out.only o1 NQ.out);have o1:=xh o1;clear p0;go_wp2_with fail;refine (KB.out _ _).mono ?_;rintro e w2 ⟨rfl,rfl⟩;obtain ⟨B2,o2,c0,c1,z0,z1⟩:=yT (b':=false) (v':= .slice none 0 0) B1.out;have B2:=xh B2;have o2:=xh o2;go_wp2_with fail
  exact bodyPost_ret (Nd.dV rfl rfl B2.out) rfl ⟨none,0,rfl,aG.nil _ _ _,by simp [ah],P1.out.aH o2.out NQ.out,jt (((ag.ak (S:=w.heap.size::F) O0.out).trans (ju o1.out)).trans (jw o2.out)) (Nat.le_refl _)⟩
theorem uJ {w:World} (leaf:Bool) (A:Option Addr) (n c:Nat) (l:List E) (S:aG w 111 3 (.slice A n c) n (aw l)) (hn:n≤1000):
  Calls Tryz.prog 175 #[aT leaf A n c] w fun e w'=>e= .returned (.tuple #[.string ⟨(aY leaf l).1.toArray⟩,.int .i64 (aY leaf l).2])∧Below w.heap.size w w':=by
 have O0:=xh (ae (Below.refl w.heap.size w) (.cells #[.bool leaf,.slice A n c] 118));have B0:=xh (ax.new w 118 #[.bool leaf,.slice A n c]);have S0:=xh (S.below O0.out);have x0:=B0.out.ab (i:=0) rfl;have x1:=B0.out.ab (i:=1) rfl;have hl:=S.1;rw [jq] at hl
 by_cases hc:leaf=false∧0<n
 ·obtain ⟨rfl,h0⟩:=hc;obtain ⟨e,r,rfl⟩: ∃e r,l=e::r:=by
   cases l with
   | nil=>simp at hl; omega
   | cons e r=>exact ⟨e,r,rfl⟩
  have KC:=xh (fun (W:World) (hb:Below (w.alloc (.cells #[.bool false,.slice A n c] 118)).heap.size (w.alloc (.cells #[.bool false,.slice A n c] 118)) W)=>Nd.D7 (S0.out.below hb) (by omega) h0);have KP:=xh (fun (W:World) (g c1:Nat) (h:aG W 111 3 (.slice (some ⟨g,0,none⟩) n c1) n (aw (blank false (e::r))))=>Nd.uG (w:=W) false (some ⟨g,0,none⟩) n c1 (blank false (e::r)) (Nd.aG.aw h).2 hn);unfold aY;generalize aJ false (blank false (e::r))=R at *
  have h0I:(0:Int)<(n:Int):=by omega
  have HN:=xh h0;clear S hl;unfold aT at *;go_enter Tryz.func175,Tryz.ntmps175;go_wp2_with fail;refine (KC.out _ (Below.refl _ _)).mono ?_;rintro e2 w1 ⟨g,c1,rfl,S1,aM,hg⟩;have B1:=xh (B0.out.below aM B0.out.lt);have O1:=xh (ao O0.out aM);have eg:g≠w.heap.size:=by simp at hg; omega
  obtain ⟨rest,BG,hr1,_,hr2⟩:=S1.oM;have y0:=B1.out.ab (i:=0) rfl;have y1:=B1.out.ab (i:=1) rfl;have y2:=B1.out.frozen 1 (by simp);have B2:=xh (B1.out.bq 1 (.slice (some ⟨g,0,none⟩) n c1));have BG2:=BG.aH (p:=⟨w.heap.size,1,none⟩) (by simpa using eg) (.slice (some ⟨g,0,none⟩) n c1);have z0:=BG2.ab (i:=0) (v:= .string e.key) rfl;have z1:=BG2.frozen 0 (by simp [Nd.aw,E.cells]);have BG3:=BG2.bq 0 (.string ⟨#[]⟩)
  have S3:=xh (show aG ((w1.setCell ⟨w.heap.size,1,none⟩ (.slice (some ⟨g,0,none⟩) n c1)).setCell ⟨g,0,none⟩ (.string ⟨#[]⟩)) 111 3 (.slice (some ⟨g,0,none⟩) n c1) n (aw (blank false (e::r))) from
   ⟨by have:=S1.1; rw [jq] at this ⊢; simpa [blank] using this,.inr ⟨g,c1,rest,rfl,by simpa [blank,Nd.aw,E.cells] using BG3,by rw [jq] at hr1 ⊢; simpa [blank] using hr1,hr2⟩⟩)
  have B3:=xh (B2.out.aH (p:=⟨g,0,none⟩) (by simpa using fun h=>eg h.symm) (.string ⟨#[]⟩));have u1:=B2.out.ab (i:=1) rfl;have v0:=B3.out.ab (i:=0) rfl;have v1:=B3.out.ab (i:=1) rfl;have O3:=xh (show Below w.heap.size w ((w1.setCell ⟨w.heap.size,1,none⟩ (.slice (some ⟨g,0,none⟩) n c1)).setCell ⟨g,0,none⟩ (.string ⟨#[]⟩)) from
   ((ag.ak (S:=[w.heap.size,g]) O1.out).aS (((ag.refl [w.heap.size,g] w1).setCell (by simp) _).setCell (by simp) _) (fun x hx _=>hx)).ay (Nat.le_refl _) (fun x hx=>by simp at hx hg; omega))
  clear BG BG2 BG3 S1 aM hr1 hr2 hg;go_wp2_with fail;refine (KP.out _ g c1 S3.out).mono ?_;rintro e3 w4 ⟨rfl,fM⟩;have O4:=xh (ao O3.out fM);clear fM;go_wp2_with fail;go_ret2;exact ⟨by first | rfl | simp,O4.out⟩
 ·have su:blank leaf l=l:=by
   unfold blank
   split
   ·exfalso;refine hc ⟨rfl,?_⟩;simp at hl;omega
   ·rfl
  have KP:=xh (Nd.uG leaf A n c l (Nd.aG.aw S0.out).2 hn);unfold aY;rw [su];generalize aJ leaf l=R at *;clear S hl su;unfold aT at *
  cases leaf
  ·obtain rfl:n=0:=by
    by_cases h:0<n
    ·exact absurd ⟨rfl,h⟩ hc
    ·omega
   clear hc;go_enter Tryz.func175,Tryz.ntmps175;go_wp2_with fail;refine KP.out.mono ?_;rintro e3 w4 ⟨rfl,fM⟩;have O4:=xh (ao O0.out fM);clear fM;go_wp2_with fail;go_ret2;exact ⟨by first | rfl | simp,O4.out⟩
  ·clear hc;go_enter Tryz.func175,Tryz.ntmps175;go_wp2_with fail;refine KP.out.mono ?_;rintro e3 w4 ⟨rfl,fM⟩;have O4:=xh (ao O0.out fM);clear fM;go_wp2_with fail;go_ret2;exact ⟨by first | rfl | simp,O4.out⟩
theorem AU (leaf:Bool) (l:List E):(aY leaf l).1.length≤232:=Nd.rK leaf _
theorem lr {w:World} {tb:Nat} {I:Ix} {F:List Nat} {q:QS} {n K:Nat} (h:TQ w tb I F q n K) (hK:K≤999999999999) (p:Int) (leaf:Bool) (A:Option Addr) (m c:Nat) (l:List E) (S:aG w 111 3 (.slice A m c) m (aw l)) (hm:m≤1000):
  Calls Tryz.prog 127 #[tp tb,.int .i64 p,aT leaf A m c] w fun e w'=>e= .returned (.int .i64 (q.cg p leaf l).2)∧PQ w' I F (q.cg p leaf l).1 n (K+1)∧ag F w w':=by
 have O0:=xh (ae (Below.refl w.heap.size w) (.cells #[.bool leaf,.slice A m c] 118));have B0:=xh (ax.new w 118 #[.bool leaf,.slice A m c]);have x0:=B0.out.ab (i:=0) rfl;have x1:=B0.out.ab (i:=1) rfl;have T0:=xh (h.below O0.out);have KL:=xh (uJ leaf A m c l (S.below O0.out) hm);have hlen:=AU leaf l;have KP:=xh (fun (W:World) (hW:TQ W tb I F q n K) (s:ByteArray) (hs:s.size≤232)=>La hW.2 hK p s hs);unfold QS.cg
 generalize aY leaf l=R at *;obtain ⟨R1,R2⟩:=R;dsimp only at *;obtain ⟨s,hs⟩: ∃s:ByteArray,s=⟨R1.toArray⟩:=⟨_,rfl⟩;have lK:s.size≤232:=by rw [hs]; show R1.toArray.size≤232; simpa using hlen
 have vB:R1=s.data.toList:=by rw [hs]
 rw [vB] at KL ⊢;rw [show (⟨s.data.toList.toArray⟩:ByteArray)=s from rfl] at KL;clear hs vB hlen S h;unfold aT tp at *;unfold pp at KP
 by_cases he:R2=0
 ·subst he;rw [if_neg (by simp)];go_enter Tryz.func127,Tryz.ntmps127;go_wp2_with fail;refine KL.out.mono ?_;rintro e w1 ⟨rfl,aM⟩;have T1:=xh (T0.out.below aM);have O1:=xh (ao O0.out aM);have p0:=T1.out.1.ab (i:=0) rfl;unfold pp at p0;clear aM x0 x1;go_wp2_with fail;refine (KP.out _ T1.out s lK).mono ?_;rintro e w2 ⟨rfl,P2,o2⟩;have P2:=xh P2;have o2:=xh o2;clear p0;go_wp2_with fail;go_ret;exact ⟨by first | rfl | simp,P2.out,(ag.ak O1.out).trans o2.out⟩
 ·rw [if_pos he];have hq:(R2 != 0)=true:=by rw [bne_iff_ne]; exact he
  have jm:(R2==0)=false:=by rw [beq_eq_false_iff_ne]; exact he
  go_enter Tryz.func127,Tryz.ntmps127;go_wp2_with fail;refine KL.out.mono ?_;rintro e w1 ⟨rfl,aM⟩;have T1:=xh (T0.out.below aM);have O1:=xh (ao O0.out aM);clear aM x0 x1;go_wp2_with fail;go_ret;exact ⟨by first | rfl | simp,T1.out.2.le (by omega),.ak O1.out⟩
theorem qR {w:World} {tb:Nat} {I:Ix} {F:List Nat} {q:QS} {n K:Nat} (h:TQ w tb I F q n K) (hK:K≤999999999999) (leaf:Bool) (A:Option Addr) (m c:Nat) (l:List E) (S:aG w 111 3 (.slice A m c) m (aw l)) (hm:m≤1000):
  Calls Tryz.prog 131 #[tp tb,aT leaf A m c] w fun e w'=>e= .returned (.tuple #[.int .i64 (q.dh leaf l).2.1,.int .i64 (q.dh leaf l).2.2])∧PT w w' I F (q.dh leaf l).1 n (K+1):=by
 have O0:=xh (ae (Below.refl w.heap.size w) (.cells #[.bool leaf,.slice A m c] 118));have B0:=xh (ax.new w 118 #[.bool leaf,.slice A m c]);have x0:=B0.out.ab (i:=0) rfl;have x1:=B0.out.ab (i:=1) rfl;have T0:=xh (h.below O0.out);have KL:=xh (uJ leaf A m c l (S.below O0.out) hm);have hlen:=AU leaf l;have KP:=xh (fun (W:World) (hW:TQ W tb I F q n K) (s:ByteArray) (hs:s.size≤232)=>uc hW.2 (by omega) s hs);unfold QS.dh
 generalize aY leaf l=R at *;obtain ⟨R1,R2⟩:=R;dsimp only at *;obtain ⟨s,hs⟩: ∃s:ByteArray,s=⟨R1.toArray⟩:=⟨_,rfl⟩;have lK:s.size≤232:=by rw [hs]; show R1.toArray.size≤232; simpa using hlen
 have vB:R1=s.data.toList:=by rw [hs]
 rw [vB] at KL ⊢;rw [show (⟨s.data.toList.toArray⟩:ByteArray)=s from rfl] at KL;clear hs vB hlen S h;unfold aT tp at *;unfold pp at KP
 by_cases he:R2=0
 ·subst he;rw [if_neg (by simp)];go_enter Tryz.func131,Tryz.ntmps131;go_wp2_with fail;refine KL.out.mono ?_;rintro e w1 ⟨rfl,aM⟩;have T1:=xh (T0.out.below aM);have O1:=xh (ao O0.out aM);have p0:=T1.out.1.ab (i:=0) rfl;unfold pp at p0;clear aM x0 x1;go_wp2_with fail;refine (KP.out _ T1.out s lK).mono ?_;rintro e w2 ⟨rfl,P2⟩;have P2:=xh P2;clear p0;go_wp2_with fail;go_ret2;obtain ⟨F2,a,b,c⟩:=P2.out
  exact ⟨by first | rfl | simp,F2,a,(ag.ak O1.out).trans b,fun g hg=>(c g hg).imp id (fun h=>Nat.le_trans O1.out.size h)⟩
 ·rw [if_pos he];have hq:(R2 != 0)=true:=by rw [bne_iff_ne]; exact he
  have jm:(R2==0)=false:=by rw [beq_eq_false_iff_ne]; exact he
  go_enter Tryz.func131,Tryz.ntmps131;go_wp2_with fail;refine KL.out.mono ?_;rintro e w1 ⟨rfl,aM⟩;have T1:=xh (T0.out.below aM);have O1:=xh (ao O0.out aM);clear aM x0 x1;go_wp2_with fail;go_ret2;exact ⟨by first | rfl | simp,.self (T1.out.2.le (by omega)) (.ak O1.out)⟩
theorem Hj {w:World} (leaf:Bool) (A:Option Addr) (m c:Nat) (l:List E) (S:aG w 111 3 (.slice A m c) m (aw l)) (hm:m≤1000) (b:Bool) (hb:b=decide ((aY leaf l).2=0)):
  Calls Tryz.prog 128 #[aT leaf A m c] w fun e w'=>e= .returned (.bool b)∧Below w.heap.size w w':=by
 have O0:=xh (ae (Below.refl w.heap.size w) (.cells #[.bool leaf,.slice A m c] 118));have B0:=xh (ax.new w 118 #[.bool leaf,.slice A m c]);have x0:=B0.out.ab (i:=0) rfl;have x1:=B0.out.ab (i:=1) rfl;have KL:=xh (uJ leaf A m c l (S.below O0.out) hm);generalize aY leaf l=R at *;obtain ⟨R1,R2⟩:=R;dsimp only at *;clear S;unfold aT at *
 by_cases he:R2=0
 ·subst he;obtain rfl:b=true:=by rw [hb]; rfl
  clear hb;go_enter Tryz.func128,Tryz.ntmps128;go_wp2_with fail;refine KL.out.mono ?_;rintro e w1 ⟨rfl,aM⟩;have O1:=xh (ao O0.out aM);clear aM;go_wp2_with fail;go_ret;exact ⟨by first | rfl | simp,O1.out⟩
 ·obtain rfl:b=false:=by rw [hb]; simpa using he
  have jm:(R2==0)=false:=by rw [beq_eq_false_iff_ne]; exact he
  clear hb;go_enter Tryz.func128,Tryz.ntmps128;go_wp2_with fail;refine KL.out.mono ?_;rintro e w1 ⟨rfl,aM⟩;have O1:=xh (ao O0.out aM);clear aM;go_wp2_with fail;go_ret;exact ⟨by first | rfl | simp,O1.out⟩
end Go.Proofs.YtmonobkginiajaaGreat.Sh
