/- packed. -/
import Derived.Deep.CutRange
import Derived.Lib.Bytealg
import Derived.Laws.StructEq
import Derived.Test.YtmonobkginiajaaGreatAp7
set_option linter.all false
set_option maxRecDepth 100000
set_option maxHeartbeats 8000000
namespace Go.Proofs.YtmonobkginiajaaGreat
open Go.Proofs.Tryz
namespace Nd
open Go.RowKit Sl
attribute [local go_sem ↓] Go.wp_at_zero Go.wp_at_succ
variable{w:World}
def Cg(leaf:Bool):List UInt8:=if leaf=true then [1]else [2]
def ig(leaf:Bool)(l:List E):List (List UInt8):=Cg leaf::l.map pT
theorem zf(leaf:Bool)(l:List E)(i:Nat)(e:E)(h:l[i]?=some e):ig leaf (l.take (i+1))=ig leaf (l.take i)++[pT e]:=by
 unfold ig;rw[kD,h];simp
theorem Er(leaf:Bool)(l:List E):(ig leaf l).length=l.length+1:=by simp[ig]
theorem pU(e:E):(pT e).length=3+e.key.size+e.val.size:=by
 unfold pT fA;simp;omega
theorem put_no(leaf:Bool)(A:Option Addr)(n c:Nat)(l:List E)(h:oJ w A n l)(hn:n<=1000000)(hm:¬dD l leaf):
  Calls prog 68 #[bt leaf A n c] w λr w'=>r=.returned (.tuple #[.string ⟨#[]⟩,.int .i64 2])/\Below w.heap.size w w':=by
 have O0:=(Below.refl w.heap.size w).alloc (aj _) (.cells #[.bool leaf,.slice A n c] 118);have KM:=xh (qT (w:=w.alloc (.cells #[.bool leaf,.slice A n c] 118)) leaf A n c l (h.below O0) (by omega));have O0:=xh O0;have HM:=xh hm;clear h hm;unfold bt at *;go_enter func68,ntmps68;go_wp2_with fail;refine KM.o.mono ?_;rintro r w1 ⟨⟨b,rfl,hb⟩,aJ⟩;obtain rfl:b=false:=by
  cases b
  .rfl
  .exact absurd (hb.1 rfl) HM.o
 have O1:=xh (au O0.o aJ);clear hb aJ;go_wp2_with fail;go_ret2;exact⟨rfl,O1.o⟩
theorem put_yes(leaf:Bool)(A:Option Addr)(n c:Nat)(l:List E)(h:oJ w A n l)(hn:n<=1000)(hm:dD l leaf):
  Calls prog 68 #[bt leaf A n c] w (Sy (ig leaf l) w):=by
 have O0:=(Below.refl w.heap.size w).alloc (aj _) (.cells #[.bool leaf,.slice A n c] 118);have hl:=xh h.1;have H0:=h.below O0;have KM:=xh (qT (w:=w.alloc (.cells #[.bool leaf,.slice A n c] 118)) leaf A n c l H0 (by omega));have B0:=xh (aE.new w 118 #[.bool leaf,.slice A n c]);have O0:=xh O0;have H0:=xh H0;have HM:=xh hm;have HH:=xh h
 have HQ:=xh (show ∀(i:Nat) (e:E),l[i]?=some e->e.key.size<=32/\e.val.size<=40/\ -1<=e.aU/\e.aU<=511 from λi e he=>by
  have h2:=(zc e leaf).1 (hm i (aX.1 he).1 e he).1;exact⟨h2.1,h2.2.1,h2.2.2.1,h2.2.2.2.1⟩)
 have HL:=xh (Er leaf l);have HS:=xh (show ∀r∈ig leaf l,r.length<=1000000 from λr hr=>by
  unfold ig at hr
  rcases ar.1 hr with rfl|hr
  .unfold Cg;split<;>decide
  .obtain⟨e,he,rfl⟩:=cg.1 hr;obtain⟨i,hi,rfl⟩:=pB he;have:=HQ.o i _ (aT hi);rw[pU];omega)
 clear h hm;unfold bt at *;go_enter func68,ntmps68;go_wp2_with fail;generalize (w.alloc (.cells #[.bool leaf,.slice A n c] 118))=W0 at *;refine KM.o.mono ?_;rintro r w1 ⟨⟨b,rfl,hb⟩,aJ⟩;obtain rfl:b=true:=hb.2 HM.o;have O1:=xh (au O0.o aJ);have H1:=xh (H0.o.below aJ);have B1:=xh (B0.o.below aJ B0.o.lt);have c0:w1.cell? ⟨w.heap.size,0,none⟩=some (.bool leaf):=B1.o.ab (i:=0) rfl
 have c1:w1.cell? ⟨w.heap.size,1,none⟩=some (.slice A n c):=B1.o.ab (i:=1) rfl;have dV:=B1.o.lt;clear hb aJ;have SK:=xh (show ∀k:List UInt8,aK ((w1.alloc (.cells #[.string ⟨k.toArray⟩] 9)).alloc (.cells #[.slice (some ⟨w1.heap.size,0,none⟩) 1 1] 123)) 9 1 (.slice (some ⟨w1.heap.size,0,none⟩) 1 1) 1 (strs [k])from λk=>⟨rfl,.inr ⟨w1.heap.size,1,[],rfl,(aE.new w1 9 #[.string ⟨k.toArray⟩]).alloc _,rfl,by unfold maxLen;omega⟩⟩)
 have BK:=xh (show ∀k:List UInt8,aE ((w1.alloc (.cells #[.string ⟨k.toArray⟩] 9)).alloc (.cells #[.slice (some ⟨w1.heap.size,0,none⟩) 1 1] 123)) (w1.heap.size+1) 123 #[.slice (some ⟨w1.heap.size,0,none⟩) 1 1]from λk=>by
  have:=aE.new (w1.alloc (.cells #[.string ⟨k.toArray⟩] 9)) 123 #[.slice (some ⟨w1.heap.size,0,none⟩) 1 1];rw[uZ]at this;exact this)
 have OK:=xh (show ∀k:List UInt8,Below w.heap.size w ((w1.alloc (.cells #[.string ⟨k.toArray⟩] 9)).alloc (.cells #[.slice (some ⟨w1.heap.size,0,none⟩) 1 1] 123))from λk=>au O1.o (ae (ae (Below.refl _ _) _) _))
 cases leaf
 .replace SK:=xh (SK.o [2])
  replace BK:=xh (BK.o [2])
  replace OK:=xh (OK.o [2])
  go_wp2_with fail;generalize hW2:((w1.alloc (.cells #[.string ⟨#[2]⟩] 9)).alloc (.cells #[.slice (some ⟨w1.heap.size,0,none⟩) 1 1] 123))=W2 at *;clear hW2 c0 c1
  go_loopw [20] (λiv wr=> ∃(i:Nat) (v':Value),i<=n/\iv=.int .i64 i/\aE wr (w1.heap.size+1) 123 #[v']/\aK wr 9 1 v' (i+1) (strs (ig false (l.take i)))/\Below w.heap.size w wr/\Hid (∀x∈ah v',w.heap.size<=x/\x≠w1.heap.size+1)) (λiv _=>n-(intOf iv).toNat)
  case atStart=>exact⟨0,_,bm _,rfl,BK.o,SK.o,OK.o,xh (λx hx=>by simp[ah]at hx;omega)⟩
  case round=>
   obtain⟨i,v',hi,rfl,B,S,O,F⟩:=hrel;obtain⟨VA,vc,rfl⟩:=ao S;have hltr:=B.lt
   by_cases h:i<n
   .obtain⟨ad,e,rfl,he,AT⟩:=(HH.o.below O).at i h;have HT:=xh (zf false l i e he);obtain⟨q1,q2,q3,q4⟩:=HQ.o i e he;have KP:=xh (tG (w:=wr.alloc (.cells #[.string e.key,.string e.val,.int .i64 e.aU] 111)) e q1 q2 q3 q4 (B.alloc _) (S.alloc _) (λhx=>(F.o _ hx).2 rfl) (by omega));have a0:=AT.c0;have a1:=AT.c1;have a2:=AT.c2;have OO:=xh O;have SZ:=xh (show w.heap.size<=w1.heap.size+1 from by omega);clear AT S B O he;go_wp2_with fail;refine KP.o.mono ?_
    rintro r w2 ⟨rfl,v2,B2,S2,o2,f2⟩;have F2:=xh (show ∀x∈ah v2,w.heap.size<=x/\x≠w1.heap.size+1 from λx hx=>(f2 x hx).elim (F.o x) (λh=>by rw[uZ]at h;have:=OO.o.size;omega));have O2:=xh ((OO.o.alloc OO.o.size (.cells #[.string e.key,.string e.val,.int .i64 e.aU] 111)).trans (o2.aO (by rw[uZ];have:=OO.o.size;omega) (λx hx=>by
     rcases ar.1 hx with rfl|hx
     .exact SZ.o
     .exact(F.o x hx).1)))
    rw[<-HT.o]at S2
    replace S2:=xh S2
    replace B2:=xh B2
    clear o2 f2;go_wp2_with fail;go_roundw
    case rel=>exact⟨i+1,v2,by omega,by go_num,B2.o,S2.o,O2.o,F2⟩
    case measure=>simp[intOf];omega
   .obtain rfl:i=n:=by omega
    have mC:=hl.o;rw[bY (by omega)]at S;have KO:=xh (za (l:=ig false l) (by rw[HL.o,mC];exact S) (by rw[HL.o];omega) HS.o);have b0:wr.cell? ⟨w1.heap.size+1,0,none⟩=some (.slice VA (i+1) vc):=B.ab (i:=0) rfl;have OO:=xh O;clear S B O mC;go_wp2_with fail;refine KO.o.mono ?_;rintro r w2 ⟨hx,bS⟩;have O2:=xh (au OO.o bS);clear bS
    rcases hx with⟨h0,T,rfl,sT,rT⟩|⟨h0,rfl⟩
    .have HX:=xh (And.intro h0 (And.intro sT rT));clear h0 sT rT;go_wp2_with fail;go_ret2;exact⟨.inl ⟨HX.o.1,T,rfl,HX.o.2.1,HX.o.2.2⟩,O2.o⟩
    .have HX:=xh h0;clear h0;go_wp2_with fail;go_ret2;exact⟨.inr ⟨HX.o,rfl⟩,O2.o⟩
 .replace SK:=xh (SK.o [1])
  replace BK:=xh (BK.o [1])
  replace OK:=xh (OK.o [1])
  go_wp2_with fail;generalize hW2:((w1.alloc (.cells #[.string ⟨#[1]⟩] 9)).alloc (.cells #[.slice (some ⟨w1.heap.size,0,none⟩) 1 1] 123))=W2 at *;clear hW2 c0 c1
  go_loopw [20] (λiv wr=> ∃(i:Nat) (v':Value),i<=n/\iv=.int .i64 i/\aE wr (w1.heap.size+1) 123 #[v']/\aK wr 9 1 v' (i+1) (strs (ig true (l.take i)))/\Below w.heap.size w wr/\Hid (∀x∈ah v',w.heap.size<=x/\x≠w1.heap.size+1)) (λiv _=>n-(intOf iv).toNat)
  case atStart=>exact⟨0,_,bm _,rfl,BK.o,SK.o,OK.o,xh (λx hx=>by simp[ah]at hx;omega)⟩
  case round=>
   obtain⟨i,v',hi,rfl,B,S,O,F⟩:=hrel;obtain⟨VA,vc,rfl⟩:=ao S;have hltr:=B.lt
   by_cases h:i<n
   .obtain⟨ad,e,rfl,he,AT⟩:=(HH.o.below O).at i h;have HT:=xh (zf true l i e he);obtain⟨q1,q2,q3,q4⟩:=HQ.o i e he;have KP:=xh (tG (w:=wr.alloc (.cells #[.string e.key,.string e.val,.int .i64 e.aU] 111)) e q1 q2 q3 q4 (B.alloc _) (S.alloc _) (λhx=>(F.o _ hx).2 rfl) (by omega));have a0:=AT.c0;have a1:=AT.c1;have a2:=AT.c2;have OO:=xh O;have SZ:=xh (show w.heap.size<=w1.heap.size+1 from by omega);clear AT S B O he;go_wp2_with fail;refine KP.o.mono ?_
    rintro r w2 ⟨rfl,v2,B2,S2,o2,f2⟩;have F2:=xh (show ∀x∈ah v2,w.heap.size<=x/\x≠w1.heap.size+1 from λx hx=>(f2 x hx).elim (F.o x) (λh=>by rw[uZ]at h;have:=OO.o.size;omega));have O2:=xh ((OO.o.alloc OO.o.size (.cells #[.string e.key,.string e.val,.int .i64 e.aU] 111)).trans (o2.aO (by rw[uZ];have:=OO.o.size;omega) (λx hx=>by
     rcases ar.1 hx with rfl|hx
     .exact SZ.o
     .exact(F.o x hx).1)))
    rw[<-HT.o]at S2
    replace S2:=xh S2
    replace B2:=xh B2
    clear o2 f2;go_wp2_with fail;go_roundw
    case rel=>exact⟨i+1,v2,by omega,by go_num,B2.o,S2.o,O2.o,F2⟩
    case measure=>simp[intOf];omega
   .obtain rfl:i=n:=by omega
    have mC:=hl.o;rw[bY (by omega)]at S;have KO:=xh (za (l:=ig true l) (by rw[HL.o,mC];exact S) (by rw[HL.o];omega) HS.o);have b0:wr.cell? ⟨w1.heap.size+1,0,none⟩=some (.slice VA (i+1) vc):=B.ab (i:=0) rfl;have OO:=xh O;clear S B O mC;go_wp2_with fail;refine KO.o.mono ?_;rintro r w2 ⟨hx,bS⟩;have O2:=xh (au OO.o bS);clear bS
    rcases hx with⟨h0,T,rfl,sT,rT⟩|⟨h0,rfl⟩
    .have HX:=xh (And.intro h0 (And.intro sT rT));clear h0 sT rT;go_wp2_with fail;go_ret2;exact⟨.inl ⟨HX.o.1,T,rfl,HX.o.2.1,HX.o.2.2⟩,O2.o⟩
    .have HX:=xh h0;clear h0;go_wp2_with fail;go_ret2;exact⟨.inr ⟨HX.o,rfl⟩,O2.o⟩
end Nd
namespace Nd
open Go.RowKit Sl
variable{w:World}{g n c:Nat}{leaf:Bool}{A:Option Addr}{tmps:Array Value}
theorem vd{fn:Func}{p q:Tmp}{ty tz:TypeId}(h:fn.results= #[.cell p ty,.cell q tz])(tmps:Array Value)(P:Program)(w:World):
  (results fn tmps).run P w=
   ((asAddr (tmps.getD p undef)).run P w).andThen λa w₁=>((loadVar ty a).run P w₁).andThen λv w₂=>((asAddr (tmps.getD q undef)).run P w₂).andThen λa w₁=>((loadVar tz a).run P w₁).andThen λu w₂=> .ok (.tuple #[v,u]) w₂:=by
 simp only[results,h];simp[Sem.run_bind,Result.andThen]
theorem fu{fn:Func}{p u:Tmp}(h:fn.results= #[.cell p 118,.tmp u])(hp:tmps.getD p undef=.pointer (some ⟨g,0,none⟩))(B:aE w g 118 #[.bool leaf,.slice A n c]):
  (results fn tmps).run prog w=.ok (.tuple #[bt leaf A n c,tmps.getD u undef]) w:=by
 have c0:=B.ab (i:=0) rfl;have c1:=B.ab (i:=1) rfl;rw[results_cell_tmp h,hp];clear h hp B;unfold bt;go_simp
theorem JW{fn:Func}{p q:Tmp}{g':Nat}{leaf':Bool}{A':Option Addr}{n' c':Nat}(h:fn.results= #[.cell p 118,.cell q 118])(hp:tmps.getD p undef=.pointer (some ⟨g,0,none⟩))(hq:tmps.getD q undef=.pointer (some ⟨g',0,none⟩))(B:aE w g 118 #[.bool leaf,.slice A n c])(B':aE w g' 118 #[.bool leaf',.slice A' n' c']):
  (results fn tmps).run prog w=.ok (.tuple #[bt leaf A n c,bt leaf' A' n' c']) w:=by
 have c0:=B.ab (i:=0) rfl;have c1:=B.ab (i:=1) rfl;have d0:=B'.ab (i:=0) rfl;have d1:=B'.ab (i:=1) rfl;rw[vd h,hp,hq];clear h hp hq B B';unfold bt;go_simp
attribute [local go_sem ↓] Go.wp_at_zero Go.wp_at_succ bq
def mR(rs:List (List UInt8)):Bool:=decide (rs.head?=some [1])
def kT(rs:List (List UInt8)):List E:=rs.tail.map λr=>gV ⟨r.toArray⟩
def iD(rs:List (List UInt8)):Prop:=(rs.head?=some [1]\/rs.head?=some [2])/\(∀r∈rs.tail,ie ⟨r.toArray⟩)/\dD (kT rs) (mR rs)
def mS(rs:List (List UInt8))(w:World)(e:Ending)(w':World):Prop:=
 ((¬iD rs/\e=.returned (.tuple #[bt false none 0 0,.int .i64 14]))\/
  (iD rs/\∃A n c,e=.returned (.tuple #[bt (mR rs) A n c,.int .i64 0])/\aK w' 111 3 (.slice A n c) n (aH (kT rs))/\Hid (∀g∈ah (.slice A n c),w.heap.size<=g)))/\Below w.heap.size w w'
theorem got_nil(s:ByteArray)(w:World)(hs:s.size<=1000000)(hq:bX s.data.toList=0)(gQ:cI s.data.toList=[]):
  Calls prog 122 #[.string s] w (mS ([]) w):=by
 have B0:=aE.new w 118 #[.bool false,.slice none 0 0];have O0:=ae (Below.refl w.heap.size w) (.cells #[.bool false,.slice none 0 0] 118);have KA:=xh (mQ s (w.alloc (.cells #[.bool false,.slice none 0 0] 118)) hs);unfold mS bt;have O0:=xh O0;have B0:=xh B0;have hS:=(eu _).1 hq;have hm:=lQ hS;have Oc:=xh (kk hS);have hN:=cE s.data.toList;obtain⟨N,zg⟩:∃N,bT s.data.toList 0=N:=⟨_,rfl⟩;unfold lB at KA
 rw[hq,gQ,zg]at KA;rw[gQ,zg]at hN;rw[gQ]at hm Oc;clear hS hq gQ zg;go_enter func122,ntmps122;go_wp2_with fail;refine KA.o.mono ?_;rintro e w1 ⟨v,rfl,aJ,fr,hv⟩;have S1:aK w1 9 1 v N (strs []):=hv.elim (λh=>h.2) (λh=>absurd rfl h.1);have Cb:∀x∈ah v,w.heap.size+1<=x:=λx hx=>by have:=fr x hx;rw[uZ]at this;exact this
 obtain⟨V1,sM,rfl⟩:=ao S1;have O1:=xh (au O0.o aJ);have B1:=xh (B0.o.below aJ B0.o.lt);have f0:w1.frozen? ⟨w.heap.size,0,none⟩=false:=B1.o.frozen 0 (by simp);have f1:w1.frozen? ⟨w.heap.size,1,none⟩=false:=B1.o.frozen 1 (by simp);have z0:w1.cell? ⟨w.heap.size,0,none⟩=some (.bool false):=B1.o.ab (i:=0) rfl;have z1:w1.cell? ⟨w.heap.size,1,none⟩=some (.slice none 0 0):=B1.o.ab (i:=1) rfl
 have BZ:=xh ((B1.o.bG 0 (.bool false)).bG 1 (.slice none 0 0));have OZ:=xh (((((ag.ai (S:=[]) O1.o).setCell (p:=⟨w.heap.size,0,none⟩) (λh=>absurd h (by simp)) (.bool false)).setCell (p:=⟨w.heap.size,1,none⟩) (λh=>absurd h (by simp)) (.slice none 0 0))).dW);clear fr aJ hv;obtain rfl:N=0:=by simpa using hN.symm
 go_wp2_with fail;exact bodyPost_ret (fu rfl rfl BZ.o) rfl ⟨.inl ⟨by simp[iD],rfl⟩,OZ.o⟩
theorem got_odd(s:ByteArray)(w:World)(hs:s.size<=1000000)(hq:bX s.data.toList=0)(r0:List UInt8)(rest:List (List UInt8))(h1:¬r0=[1])(h2:¬r0=[2])(gQ:cI s.data.toList=r0::rest):
  Calls prog 122 #[.string s] w (mS (r0::rest) w):=by
 have B0:=aE.new w 118 #[.bool false,.slice none 0 0];have O0:=ae (Below.refl w.heap.size w) (.cells #[.bool false,.slice none 0 0] 118);have KA:=xh (mQ s (w.alloc (.cells #[.bool false,.slice none 0 0] 118)) hs);unfold mS bt;have O0:=xh O0;have B0:=xh B0;have hS:=(eu _).1 hq;have hm:=lQ hS;have Oc:=xh (kk hS);have hN:=cE s.data.toList;obtain⟨N,zg⟩:∃N,bT s.data.toList 0=N:=⟨_,rfl⟩;unfold lB at KA
 rw[hq,gQ,zg]at KA;rw[gQ,zg]at hN;rw[gQ]at hm Oc;clear hS hq gQ zg;go_enter func122,ntmps122;go_wp2_with fail;refine KA.o.mono ?_;rintro e w1 ⟨v,rfl,aJ,fr,hv⟩;have S1:aK w1 9 1 v N (strs (r0::rest)):=hv.elim (λh=>h.2) (λh=>absurd rfl h.1);have Cb:∀x∈ah v,w.heap.size+1<=x:=λx hx=>by have:=fr x hx;rw[uZ]at this;exact this
 obtain⟨V1,sM,rfl⟩:=ao S1;have O1:=xh (au O0.o aJ);have B1:=xh (B0.o.below aJ B0.o.lt);have f0:w1.frozen? ⟨w.heap.size,0,none⟩=false:=B1.o.frozen 0 (by simp);have f1:w1.frozen? ⟨w.heap.size,1,none⟩=false:=B1.o.frozen 1 (by simp);have z0:w1.cell? ⟨w.heap.size,0,none⟩=some (.bool false):=B1.o.ab (i:=0) rfl;have z1:w1.cell? ⟨w.heap.size,1,none⟩=some (.slice none 0 0):=B1.o.ab (i:=1) rfl
 have BZ:=xh ((B1.o.bG 0 (.bool false)).bG 1 (.slice none 0 0));have OZ:=xh (((((ag.ai (S:=[]) O1.o).setCell (p:=⟨w.heap.size,0,none⟩) (λh=>absurd h (by simp)) (.bool false)).setCell (p:=⟨w.heap.size,1,none⟩) (λh=>absurd h (by simp)) (.slice none 0 0))).dW);clear fr aJ hv;obtain rfl:N=rest.length+1:=by simpa using hN.symm
 obtain⟨g,rfl,ck⟩:=kR S1 0 (by simp);have hgw:w.heap.size<g:=Cb g (by simp[ah]);have hgl:g<w1.heap.size:=S1.lt g (by simp[ah]);have hwl1:=B1.o.lt;have Od:w1.cell? ⟨g,0,none⟩=some (.string ⟨r0.toArray⟩):=ck;have S1:=xh S1;have N7:rest.length<=56:=te hm;have uR:rest.length+1<=sM/\sM<=maxLen:=by
  obtain⟨r,_,h1,_,h2⟩:=S1.o.rp;simp at h1;exact⟨by first|omega|(simp;omega),h2⟩
 clear ck Cb KA hN hm;obtain⟨K0,Es⟩:∃K0:ByteArray,(⟨r0.toArray⟩:ByteArray)=K0:=⟨_,rfl⟩;rw[Es]at Od;have JX:K0.toList=r0:=by rw[bu,<-Es]
 clear Es;have n1:¬(rest.length:Int)+1=0:=by omega
 have n2:((rest.length:Int)+1==0)=false:=by simpa using n1
 rw[<-JX]at h1 h2;have k1:(K0.toList==[1])=false:=by simpa using h1
 have k2:(K0.toList==[2])=false:=by simpa using h2
 have LP:=xh (show ¬iD (r0::rest)from λhx=>by
  have:=hx.1;simp only[List.head?_cons,Option.some.injEq]at this;rw[<-JX]at this;exact this.elim h1 h2)
 clear JX;go_wp2_with fail;exact bodyPost_ret (fu rfl rfl BZ.o) rfl ⟨.inl ⟨LP.o,rfl⟩,OZ.o⟩
theorem Et(s:ByteArray)(w:World)(hs:s.size<=1000000)(hq:bX s.data.toList=0)(r0:List UInt8)(AO:r0=[1])(gQ:cI s.data.toList=[r0]):
  Calls prog 122 #[.string s] w (mS ([r0]) w):=by
 have B0:=aE.new w 118 #[.bool false,.slice none 0 0];have O0:=ae (Below.refl w.heap.size w) (.cells #[.bool false,.slice none 0 0] 118);have KA:=xh (mQ s (w.alloc (.cells #[.bool false,.slice none 0 0] 118)) hs);unfold mS bt;have O0:=xh O0;have B0:=xh B0;have hS:=(eu _).1 hq;have hm:=lQ hS;have Oc:=xh (kk hS);have hN:=cE s.data.toList;obtain⟨N,zg⟩:∃N,bT s.data.toList 0=N:=⟨_,rfl⟩;unfold lB at KA
 rw[hq,gQ,zg]at KA;rw[gQ,zg]at hN;rw[gQ]at hm Oc;clear hS hq gQ zg;go_enter func122,ntmps122;go_wp2_with fail;refine KA.o.mono ?_;rintro e w1 ⟨v,rfl,aJ,fr,hv⟩;have S1:aK w1 9 1 v N (strs [r0]):=hv.elim (λh=>h.2) (λh=>absurd rfl h.1);have Cb:∀x∈ah v,w.heap.size+1<=x:=λx hx=>by have:=fr x hx;rw[uZ]at this;exact this
 obtain⟨V1,sM,rfl⟩:=ao S1;have O1:=xh (au O0.o aJ);have B1:=xh (B0.o.below aJ B0.o.lt);have f0:w1.frozen? ⟨w.heap.size,0,none⟩=false:=B1.o.frozen 0 (by simp);have f1:w1.frozen? ⟨w.heap.size,1,none⟩=false:=B1.o.frozen 1 (by simp);have z0:w1.cell? ⟨w.heap.size,0,none⟩=some (.bool false):=B1.o.ab (i:=0) rfl;have z1:w1.cell? ⟨w.heap.size,1,none⟩=some (.slice none 0 0):=B1.o.ab (i:=1) rfl
 have BZ:=xh ((B1.o.bG 0 (.bool false)).bG 1 (.slice none 0 0));have OZ:=xh (((((ag.ai (S:=[]) O1.o).setCell (p:=⟨w.heap.size,0,none⟩) (λh=>absurd h (by simp)) (.bool false)).setCell (p:=⟨w.heap.size,1,none⟩) (λh=>absurd h (by simp)) (.slice none 0 0))).dW);clear fr aJ hv;obtain rfl:N=([]:List (List UInt8)).length+1:=by simpa using hN.symm
 obtain⟨g,rfl,ck⟩:=kR S1 0 (by simp);have hgw:w.heap.size<g:=Cb g (by simp[ah]);have hgl:g<w1.heap.size:=S1.lt g (by simp[ah]);have hwl1:=B1.o.lt;have Od:w1.cell? ⟨g,0,none⟩=some (.string ⟨r0.toArray⟩):=ck;have S1:=xh S1;have N7:([]:List (List UInt8)).length<=56:=te hm;have uR:([]:List (List UInt8)).length+1<=sM/\sM<=maxLen:=by
  obtain⟨r,_,h1,_,h2⟩:=S1.o.rp;simp at h1;exact⟨by first|omega|(simp;omega),h2⟩
 clear ck Cb KA hN hm;obtain⟨K0,Es⟩:∃K0:ByteArray,(⟨r0.toArray⟩:ByteArray)=K0:=⟨_,rfl⟩;rw[Es]at Od;have JX:K0.toList=r0:=by rw[bu,<-Es]
 clear Es;have hk:K0.toList=[1]:=by rw[JX];exact AO
 have SD:=xh AO;have k1:(K0.toList==[1])=true:=by rw[hk];decide
 have k2:(K0.toList==[2])=false:=by rw[hk];decide
 have k3:K0.toList=[1]:=by rw[hk]
 clear JX hk;have R0:=xh (show aE (w1.alloc (.cells #[.bool true,.slice none 0 0] 118)) w1.heap.size 118 #[.bool true,.slice none 0 0]from aE.new w1 _ _);have R2:=xh (B1.o.alloc (.cells #[.bool true,.slice none 0 0] 118));have RO:=xh (au O1.o (ae (Below.refl _ _) (.cells #[.bool true,.slice none 0 0] 118)));have JY:=xh (show mR [r0]=true from by simp[mR,SD.o])
 have HM:=xh (show dD ([]:List E) true from λi hi=>absurd hi (kF _));have JZ:=xh (show iD [r0]from⟨by rw[SD.o];simp,by simp,by rw[JY.o];exact HM.o⟩)
 by_cases mB:sM=1
 all_goals
  go_wp2_with fail;generalize hW6:(w1.alloc (.cells #[.bool true,.slice none 0 0] 118))=W6 at *;clear hW6 f0 f1 z0 z1 Od;have KM:=xh (qT (w:=W6) true none 0 0 [] (show oJ W6 none 0 []from⟨rfl,λk e h=>by simp at h⟩) (by omega));unfold bt at KM
  go_loopw [46] (λiv wr=>iv=.int .i64 0/\wr=W6) (λ_ _=>0)
  case atStart=>exact⟨rfl,rfl⟩
  case round=>
   obtain⟨rfl,rfl⟩:=hrel;have d0:wr.cell? ⟨w1.heap.size,0,none⟩=some (.bool true):=R0.o.ab (i:=0) rfl;have d1:wr.cell? ⟨w1.heap.size,1,none⟩=some (.slice none 0 0):=R0.o.ab (i:=1) rfl;go_wp2_with fail;refine KM.o.mono ?_;rintro e' w2 ⟨⟨b,rfl,hb⟩,bS⟩;obtain rfl:=hb.2 HM.o;have CW:=R2.o.below bS R2.o.lt;have CN:=R0.o.below bS R0.o.lt;have f0:w2.frozen? ⟨w.heap.size,0,none⟩=false:=CW.frozen 0 (by simp)
   have f1:w2.frozen? ⟨w.heap.size,1,none⟩=false:=CW.frozen 1 (by simp);have z0:w2.cell? ⟨w.heap.size,0,none⟩=some (.bool false):=CW.ab (i:=0) rfl;have z1:w2.cell? ⟨w.heap.size,1,none⟩=some (.slice none 0 0):=CW.ab (i:=1) rfl;have y0:w2.cell? ⟨w1.heap.size,0,none⟩=some (.bool true):=CN.ab (i:=0) rfl;have y1:w2.cell? ⟨w1.heap.size,1,none⟩=some (.slice none 0 0):=CN.ab (i:=1) rfl;have SG:=R2.o.lt;have CX:=xh ((CW.bG 0 (.bool true)).bG 1 (.slice none 0 0))
   have OX:=xh ((((ag.ai (S:=[]) (au RO.o bS)).setCell (p:=⟨w.heap.size,0,none⟩) (λh=>absurd h (by simp)) (.bool true)).setCell (p:=⟨w.heap.size,1,none⟩) (λh=>absurd h (by simp)) (.slice none 0 0)).dW);clear CW CN bS hb d0 d1;go_wp2_with fail;exact bodyPost_ret (fu rfl rfl CX.o) rfl ⟨.inr ⟨JZ.o,none,0,0,by rw[JY.o];rfl,aK.nil _ _ _,xh (λx hx=>by simp[ah]at hx)⟩,OX.o⟩
theorem AR(s:ByteArray)(w:World)(hs:s.size<=1000000)(hq:bX s.data.toList=0)(r0:List UInt8)(rest:List (List UInt8))(AO:r0=[1])(eV:rest≠[])(gQ:cI s.data.toList=r0::rest):
  Calls prog 122 #[.string s] w (mS (r0::rest) w):=by
 have B0:=aE.new w 118 #[.bool false,.slice none 0 0];have O0:=ae (Below.refl w.heap.size w) (.cells #[.bool false,.slice none 0 0] 118);have KA:=xh (mQ s (w.alloc (.cells #[.bool false,.slice none 0 0] 118)) hs);unfold mS bt;have O0:=xh O0;have B0:=xh B0;have hS:=(eu _).1 hq;have hm:=lQ hS;have Oc:=xh (kk hS);have hN:=cE s.data.toList;obtain⟨N,zg⟩:∃N,bT s.data.toList 0=N:=⟨_,rfl⟩;unfold lB at KA
 rw[hq,gQ,zg]at KA;rw[gQ,zg]at hN;rw[gQ]at hm Oc;clear hS hq gQ zg;go_enter func122,ntmps122;go_wp2_with fail;refine KA.o.mono ?_;rintro e w1 ⟨v,rfl,aJ,fr,hv⟩;have S1:aK w1 9 1 v N (strs (r0::rest)):=hv.elim (λh=>h.2) (λh=>absurd rfl h.1);have Cb:∀x∈ah v,w.heap.size+1<=x:=λx hx=>by have:=fr x hx;rw[uZ]at this;exact this
 obtain⟨V1,sM,rfl⟩:=ao S1;have O1:=xh (au O0.o aJ);have B1:=xh (B0.o.below aJ B0.o.lt);have f0:w1.frozen? ⟨w.heap.size,0,none⟩=false:=B1.o.frozen 0 (by simp);have f1:w1.frozen? ⟨w.heap.size,1,none⟩=false:=B1.o.frozen 1 (by simp);have z0:w1.cell? ⟨w.heap.size,0,none⟩=some (.bool false):=B1.o.ab (i:=0) rfl;have z1:w1.cell? ⟨w.heap.size,1,none⟩=some (.slice none 0 0):=B1.o.ab (i:=1) rfl
 have BZ:=xh ((B1.o.bG 0 (.bool false)).bG 1 (.slice none 0 0));have OZ:=xh (((((ag.ai (S:=[]) O1.o).setCell (p:=⟨w.heap.size,0,none⟩) (λh=>absurd h (by simp)) (.bool false)).setCell (p:=⟨w.heap.size,1,none⟩) (λh=>absurd h (by simp)) (.slice none 0 0))).dW);clear fr aJ hv;obtain rfl:N=rest.length+1:=by simpa using hN.symm
 obtain⟨g,rfl,ck⟩:=kR S1 0 (by simp);have hgw:w.heap.size<g:=Cb g (by simp[ah]);have hgl:g<w1.heap.size:=S1.lt g (by simp[ah]);have hwl1:=B1.o.lt;have Od:w1.cell? ⟨g,0,none⟩=some (.string ⟨r0.toArray⟩):=ck;have S1:=xh S1;have N7:rest.length<=56:=te hm;have uR:rest.length+1<=sM/\sM<=maxLen:=by
  obtain⟨r,_,h1,_,h2⟩:=S1.o.rp;simp at h1;exact⟨by first|omega|(simp;omega),h2⟩
 clear ck Cb KA hN hm;obtain⟨K0,Es⟩:∃K0:ByteArray,(⟨r0.toArray⟩:ByteArray)=K0:=⟨_,rfl⟩;rw[Es]at Od;have JX:K0.toList=r0:=by rw[bu,<-Es]
 clear Es;have hk:K0.toList=[1]:=by rw[JX];exact AO
 have SD:=xh AO;have k1:(K0.toList==[1])=true:=by rw[hk];decide
 have k2:(K0.toList==[2])=false:=by rw[hk];decide
 have k3:K0.toList=[1]:=by rw[hk]
 clear JX hk;have n1:¬(rest.length:Int)+1=0:=by omega
 have n2:((rest.length:Int)+1==0)=false:=by simpa using n1
 have mB:¬sM=1:=λh=>by
  have:0<rest.length:=sR.2 eV;omega
 have R0:=xh (show aE (w1.alloc (.cells #[.bool true,.slice none 0 0] 118)) w1.heap.size 118 #[.bool true,.slice none 0 0]from aE.new w1 _ _);have R2:=xh (B1.o.alloc (.cells #[.bool true,.slice none 0 0] 118));have RS:=xh (S1.o.alloc (.cells #[.bool true,.slice none 0 0] 118));have RO:=xh (au O1.o (ae (Below.refl _ _) (.cells #[.bool true,.slice none 0 0] 118)));go_wp2_with fail;generalize hW6:(w1.alloc (.cells #[.bool true,.slice none 0 0] 118))=W6 at *
 clear hW6 f0 f1 z0 z1 Od
 go_loopw [46] (λiv wr=> ∃(i:Nat) (v':Value),i<=rest.length/\iv=.int .i64 i/\aE wr w1.heap.size 118 #[.bool true,v']/\aE wr w.heap.size 118 #[.bool false,.slice none 0 0]/\aK wr 111 3 v' i (aH ((rest.take i).map λr=>gV ⟨r.toArray⟩))/\aK wr 9 1 (.slice (some ⟨g,0,none⟩) (rest.length+1) sM) (rest.length+1) (strs (r0::rest))/\Hid (∀r∈rest.take i,ie ⟨r.toArray⟩)/\Below w.heap.size w wr/\Hid (∀x∈ah v',w1.heap.size+1<=x)) (λiv _=>rest.length-(intOf iv).toNat)
 case atStart=>exact⟨0,_,bm _,rfl,R0.o,R2.o,aK.nil _ _ _,RS.o,xh (by simp),RO.o,xh (λx hx=>by simp[ah]at hx)⟩
 case round=>
  obtain⟨i,v',hi,rfl,C6,C2,S,RS,EO,O,F⟩:=hrel;obtain⟨VA,vc,rfl⟩:=ao S;have hltr:=C6.lt;have hg6:w1.heap.size∉ah (.slice VA i vc):=λhx=>by have:=F.o _ hx;omega
  have hg2:w.heap.size∉ah (.slice VA i vc):=λhx=>by have:=F.o _ hx;omega
  have NX:g∉ah (.slice VA i vc):=λhx=>by have:=F.o _ hx;omega
  by_cases h:i<rest.length
  .obtain⟨g',hgx,ck⟩:=kR RS (i+1) (by simp;omega);simp only[Option.some.injEq,Addr.mk.injEq,and_true]at hgx;subst hgx;have hri:(r0::rest)[i+1]'(by simp;omega)=rest[i]:=IA ..;rw[hri]at ck;have mM:rest[i].length<=232:=Oc.o _ (bz _ (j9 h));have HT:=xh (jO h);obtain⟨T,hT⟩:∃T:ByteArray,(⟨rest[i].toArray⟩:ByteArray)=T:=⟨_,rfl⟩;have hTs:T.size<=232:=by rw[<-hT,Sl.size_of_list];exact mM
   rw[hT]at ck;have HTT:=xh hT;have ck2:wr.cell? ((⟨g,1,none⟩:Addr).add i)=some (.string T):=by rw[eP,qB];exact ck
   have hiI:(i:Int)<(rest.length:Int):=by omega
   have ck3:wr.cell? ⟨g,1+i,none⟩=some (.string T):=by rw[qB];exact ck
   clear hT hri mM
   by_cases fy:ie T
   .have KE:=xh (λw=>Ce w T fy (by omega));have Bo:=xh fy;obtain⟨e,he⟩:∃e,gV T=e:=⟨_,rfl⟩;rw[he]at KE;have HE:=xh he;have SL:=xh S;have CL:=xh C6;have Eu:=xh C2;have RL:=xh RS;have OL:=xh O;unfold E.agg at KE;clear fy he S C6 C2 RS O;go_wp2_with fail;refine(KE.o _).mono ?_;rintro e' w2 ⟨rfl,bS⟩
    obtain⟨v2,w3,ea,S3,ow,f3⟩:=sr (P:=prog) ((SL.o.below bS).alloc (.cells #[.string e.key,.string e.val,.int .i64 e.aU] 111)) 108 108 (.agg #[.string .empty,.string .empty,.int .i64 0]) 40 underlying108 (by kernel_rfl) rfl e (by unfold maxLen;omega) (by omega);rw[uZ]at ea;obtain⟨V2,hJ,rfl⟩:=ao S3;have EA:=xh ea;have O2:=xh ((ag.ai (S:=ah (.slice VA i vc)) bS).alloc (.cells #[.string e.key,.string e.val,.int .i64 e.aU] 111))
    have OW:=O2.o.trans ow;have CW:=((CL.o.below bS CL.o.lt).alloc (.cells #[.string e.key,.string e.val,.int .i64 e.aU] 111)).only ow hg6;have c61:((w2.alloc (.cells #[.string e.key,.string e.val,.int .i64 e.aU] 111))).cell? ⟨w1.heap.size,1,none⟩=some (.slice VA i vc):=((CL.o.below bS CL.o.lt).alloc (.cells #[.string e.key,.string e.val,.int .i64 e.aU] 111)).ab (i:=1) rfl;have fz:w3.frozen? ⟨w1.heap.size,1,none⟩=false:=CW.frozen 1 (by simp)
    have cz:w3.cell? ⟨w1.heap.size,1,none⟩=some (.slice VA i vc):=CW.ab (i:=1) rfl;have hsz2:wr.heap.size<=w2.heap.size:=bS.size;have OX:=OW.mono (S':=w1.heap.size::ah (.slice VA i vc)) (λx hx _=>bz _ hx)|>.setCell (p:=⟨w1.heap.size,1,none⟩) (λ_=>by simp) (.slice V2 (i+1) hJ);have CX:=xh (CW.bG 1 (.slice V2 (i+1) hJ));have C2X:=xh (Eu.o.only OX (by simp;exact⟨by omega,hg2⟩))
    have RX:=xh (RL.o.only OX (λx hx=>by simp[ah]at hx;subst hx;simp;exact⟨by omega,NX⟩));have pk:∀x∈ah (.slice V2 (i+1) hJ),w1.heap.size+1<=x:=λx hx=>(f3 x hx).elim (F.o x) (λh=>by rw[uZ]at h;omega);have FX:=xh pk;have SX:=xh (S3.only ((ag.refl [w1.heap.size] w3).setCell (p:=⟨w1.heap.size,1,none⟩) (λ_=>by simp) (.slice V2 (i+1) hJ)) (λx hx=>by have:=pk x hx;simp;omega))
    have OB:=xh (OL.o.trans (OX.aO OL.o.size (λx hx=>by
     rcases ar.1 hx with rfl|hx
     .omega
     .have:=F.o x hx;omega)))
    have HSX:=xh (show aH ((rest.take (i+1)).map λr=>gV ⟨r.toArray⟩)=aH ((rest.take i).map λr=>gV ⟨r.toArray⟩)++e.cells from by
     rw[HT.o,cW,fS,eh,HTT.o,HE.o];simp[aH])
    have EX:=xh (show ∀r∈rest.take (i+1),ie ⟨r.toArray⟩from λr hr=>by
     rw[HT.o]at hr
     rcases az.1 hr with hr|hr
     .exact EO.o r hr
     .simp only[aP]at hr;rw[hr,HTT.o];exact Bo.o)
    clear ea S3 ow f3 OW CW OX pk bS;go_wp2_with fail;rw[EA.o];go_wp2_with fail;go_roundw
    case rel=>exact⟨i+1,_,by omega,by go_num,CX.o,C2X.o,by rw[HSX.o];exact SX.o,RX.o,EX,OB.o,FX⟩
    case measure=>simp[intOf];omega
   .have KE:=xh (λw=>Gr w T fy);have Bo:=xh fy;have LP:=xh (show ¬iD (r0::rest)from λhx=>fy (by rw[<-HTT.o];exact hx.2.1 _ (by rw[jN];exact j9 h)));have Eu:=xh C2;have OL:=xh O;unfold E.agg E.zero at KE;clear fy S C6 C2 RS O;go_wp2_with fail;refine(KE.o _).mono ?_;rintro e' w2 ⟨rfl,bS⟩;have CW:=(Eu.o.below bS Eu.o.lt).alloc (.cells #[.string .empty,.string .empty,.int .i64 0] 111)
    have f0:(w2.alloc (.cells #[.string .empty,.string .empty,.int .i64 0] 111)).frozen? ⟨w.heap.size,0,none⟩=false:=CW.frozen 0 (by simp);have f1:(w2.alloc (.cells #[.string .empty,.string .empty,.int .i64 0] 111)).frozen? ⟨w.heap.size,1,none⟩=false:=CW.frozen 1 (by simp);have z0:(w2.alloc (.cells #[.string .empty,.string .empty,.int .i64 0] 111)).cell? ⟨w.heap.size,0,none⟩=some (.bool false):=CW.ab (i:=0) rfl
    have z1:(w2.alloc (.cells #[.string .empty,.string .empty,.int .i64 0] 111)).cell? ⟨w.heap.size,1,none⟩=some (.slice none 0 0):=CW.ab (i:=1) rfl;have CX:=xh ((CW.bG 0 (.bool false)).bG 1 (.slice none 0 0))
    have OX:=xh ((((ag.ai (S:=[]) (au OL.o (ae bS (.cells #[.string .empty,.string .empty,.int .i64 0] 111)))).setCell (p:=⟨w.heap.size,0,none⟩) (λh=>absurd h (by simp)) (.bool false)).setCell (p:=⟨w.heap.size,1,none⟩) (λh=>absurd h (by simp)) (.slice none 0 0)).dW);have SG:=Eu.o.lt;clear CW bS;go_wp2_with fail;exact bodyPost_ret (fu rfl rfl CX.o) rfl ⟨.inl ⟨LP.o,rfl⟩,OX.o⟩
  .obtain rfl:i=rest.length:=by omega
   rw[gY]at S EO;have HE:=xh (show kT (r0::rest)=rest.map λr=>gV ⟨r.toArray⟩from rfl);have JY:=xh (show mR (r0::rest)=true from by simp[mR,SD.o]);rw[<-HE.o]at S;obtain⟨-,EN⟩:=aK.aH S;have KM:=xh (qT (w:=wr) true VA rest.length vc (kT (r0::rest)) EN (by omega))
   have HF:=xh (show(dD (kT (r0::rest)) true->iD (r0::rest))/\(iD (r0::rest)->dD (kT (r0::rest)) true)from⟨λhm=>⟨by rw[SD.o];simp,EO.o,by rw[JY.o];exact hm⟩,λhx=>by have:=hx.2.2;rw[JY.o]at this;exact this⟩);have d0:wr.cell? ⟨w1.heap.size,0,none⟩=some (.bool true):=C6.ab (i:=0) rfl;have d1:wr.cell? ⟨w1.heap.size,1,none⟩=some (.slice VA rest.length vc):=C6.ab (i:=1) rfl;have SL:=xh S;have CL:=xh C6;have Eu:=xh C2
   have OL:=xh O;unfold bt at KM;clear S C6 C2 RS O EN;go_wp2_with fail;refine KM.o.mono ?_;rintro e' w2 ⟨⟨b,rfl,hb⟩,bS⟩;have CW:=Eu.o.below bS Eu.o.lt;have CN:=CL.o.below bS CL.o.lt;have f0:w2.frozen? ⟨w.heap.size,0,none⟩=false:=CW.frozen 0 (by simp);have f1:w2.frozen? ⟨w.heap.size,1,none⟩=false:=CW.frozen 1 (by simp);have z0:w2.cell? ⟨w.heap.size,0,none⟩=some (.bool false):=CW.ab (i:=0) rfl
   have z1:w2.cell? ⟨w.heap.size,1,none⟩=some (.slice none 0 0):=CW.ab (i:=1) rfl;have y0:w2.cell? ⟨w1.heap.size,0,none⟩=some (.bool true):=CN.ab (i:=0) rfl;have y1:w2.cell? ⟨w1.heap.size,1,none⟩=some (.slice VA rest.length vc):=CN.ab (i:=1) rfl;have SG:=Eu.o.lt
   cases b
   .have LP:=xh (show ¬iD (r0::rest)from λhx=>by have:=hb.2 (HF.o.2 hx);cases this);have CX:=xh ((CW.bG 0 (.bool false)).bG 1 (.slice none 0 0));have OX:=xh ((((ag.ai (S:=[]) (au OL.o bS)).setCell (p:=⟨w.heap.size,0,none⟩) (λh=>absurd h (by simp)) (.bool false)).setCell (p:=⟨w.heap.size,1,none⟩) (λh=>absurd h (by simp)) (.slice none 0 0)).dW);clear CW CN bS hb d0 d1;go_wp2_with fail
    exact bodyPost_ret (fu rfl rfl CX.o) rfl ⟨.inl ⟨LP.o,rfl⟩,OX.o⟩
   .have JZ:=xh (HF.o.1 (hb.1 rfl));have CX:=xh ((CW.bG 0 (.bool true)).bG 1 (.slice VA rest.length vc));have OX:=xh ((((ag.ai (S:=[]) (au OL.o bS)).setCell (p:=⟨w.heap.size,0,none⟩) (λh=>absurd h (by simp)) (.bool true)).setCell (p:=⟨w.heap.size,1,none⟩) (λh=>absurd h (by simp)) (.slice VA rest.length vc)).dW)
    have SX:=xh ((SL.o.below bS).only (((ag.refl [w.heap.size] w2).setCell (p:=⟨w.heap.size,0,none⟩) (λ_=>by simp) (.bool true)).setCell (p:=⟨w.heap.size,1,none⟩) (λ_=>by simp) (.slice VA rest.length vc)) (λx hx=>by simp;exact λhxx=>hg2 (hxx▸hx)));clear CW CN bS hb d0 d1;go_wp2_with fail;exact bodyPost_ret (fu rfl rfl CX.o) rfl ⟨.inr (⟨JZ.o,VA,rest.length,vc,by rw[JY.o];rfl,SX.o,xh (λx hx=>by have:=F.o x hx;omega)⟩),OX.o⟩
theorem AS(s:ByteArray)(w:World)(hs:s.size<=1000000)(hq:bX s.data.toList=0)(r0:List UInt8)(AO:r0=[2])(gQ:cI s.data.toList=[r0]):
  Calls prog 122 #[.string s] w (mS ([r0]) w):=by
 have B0:=aE.new w 118 #[.bool false,.slice none 0 0];have O0:=ae (Below.refl w.heap.size w) (.cells #[.bool false,.slice none 0 0] 118);have KA:=xh (mQ s (w.alloc (.cells #[.bool false,.slice none 0 0] 118)) hs);unfold mS bt;have O0:=xh O0;have B0:=xh B0;have hS:=(eu _).1 hq;have hm:=lQ hS;have Oc:=xh (kk hS);have hN:=cE s.data.toList;obtain⟨N,zg⟩:∃N,bT s.data.toList 0=N:=⟨_,rfl⟩;unfold lB at KA
 rw[hq,gQ,zg]at KA;rw[gQ,zg]at hN;rw[gQ]at hm Oc;clear hS hq gQ zg;go_enter func122,ntmps122;go_wp2_with fail;refine KA.o.mono ?_;rintro e w1 ⟨v,rfl,aJ,fr,hv⟩;have S1:aK w1 9 1 v N (strs [r0]):=hv.elim (λh=>h.2) (λh=>absurd rfl h.1);have Cb:∀x∈ah v,w.heap.size+1<=x:=λx hx=>by have:=fr x hx;rw[uZ]at this;exact this
 obtain⟨V1,sM,rfl⟩:=ao S1;have O1:=xh (au O0.o aJ);have B1:=xh (B0.o.below aJ B0.o.lt);have f0:w1.frozen? ⟨w.heap.size,0,none⟩=false:=B1.o.frozen 0 (by simp);have f1:w1.frozen? ⟨w.heap.size,1,none⟩=false:=B1.o.frozen 1 (by simp);have z0:w1.cell? ⟨w.heap.size,0,none⟩=some (.bool false):=B1.o.ab (i:=0) rfl;have z1:w1.cell? ⟨w.heap.size,1,none⟩=some (.slice none 0 0):=B1.o.ab (i:=1) rfl
 have BZ:=xh ((B1.o.bG 0 (.bool false)).bG 1 (.slice none 0 0));have OZ:=xh (((((ag.ai (S:=[]) O1.o).setCell (p:=⟨w.heap.size,0,none⟩) (λh=>absurd h (by simp)) (.bool false)).setCell (p:=⟨w.heap.size,1,none⟩) (λh=>absurd h (by simp)) (.slice none 0 0))).dW);clear fr aJ hv;obtain rfl:N=([]:List (List UInt8)).length+1:=by simpa using hN.symm
 obtain⟨g,rfl,ck⟩:=kR S1 0 (by simp);have hgw:w.heap.size<g:=Cb g (by simp[ah]);have hgl:g<w1.heap.size:=S1.lt g (by simp[ah]);have hwl1:=B1.o.lt;have Od:w1.cell? ⟨g,0,none⟩=some (.string ⟨r0.toArray⟩):=ck;have S1:=xh S1;have N7:([]:List (List UInt8)).length<=56:=te hm;have uR:([]:List (List UInt8)).length+1<=sM/\sM<=maxLen:=by
  obtain⟨r,_,h1,_,h2⟩:=S1.o.rp;simp at h1;exact⟨by first|omega|(simp;omega),h2⟩
 clear ck Cb KA hN hm;obtain⟨K0,Es⟩:∃K0:ByteArray,(⟨r0.toArray⟩:ByteArray)=K0:=⟨_,rfl⟩;rw[Es]at Od;have JX:K0.toList=r0:=by rw[bu,<-Es]
 clear Es;have hk:K0.toList=[2]:=by rw[JX];exact AO
 have SD:=xh AO;have k1:(K0.toList==[1])=false:=by rw[hk];decide
 have k2:(K0.toList==[2])=true:=by rw[hk];decide
 have k3:¬K0.toList=[1]:=by rw[hk];decide
 clear JX hk;have R0:=xh (show aE (w1.alloc (.cells #[.bool false,.slice none 0 0] 118)) w1.heap.size 118 #[.bool false,.slice none 0 0]from aE.new w1 _ _);have R2:=xh (B1.o.alloc (.cells #[.bool false,.slice none 0 0] 118));have RO:=xh (au O1.o (ae (Below.refl _ _) (.cells #[.bool false,.slice none 0 0] 118)));have JY:=xh (show mR [r0]=false from by simp[mR,SD.o])
 have HM:=xh (show dD ([]:List E) false from λi hi=>absurd hi (kF _));have JZ:=xh (show iD [r0]from⟨by rw[SD.o];simp,by simp,by rw[JY.o];exact HM.o⟩)
 by_cases mB:sM=1
 all_goals
  go_wp2_with fail;generalize hW6:(w1.alloc (.cells #[.bool false,.slice none 0 0] 118))=W6 at *;clear hW6 f0 f1 z0 z1 Od;have KM:=xh (qT (w:=W6) false none 0 0 [] (show oJ W6 none 0 []from⟨rfl,λk e h=>by simp at h⟩) (by omega));unfold bt at KM
  go_loopw [46] (λiv wr=>iv=.int .i64 0/\wr=W6) (λ_ _=>0)
  case atStart=>exact⟨rfl,rfl⟩
  case round=>
   obtain⟨rfl,rfl⟩:=hrel;have d0:wr.cell? ⟨w1.heap.size,0,none⟩=some (.bool false):=R0.o.ab (i:=0) rfl;have d1:wr.cell? ⟨w1.heap.size,1,none⟩=some (.slice none 0 0):=R0.o.ab (i:=1) rfl;go_wp2_with fail;refine KM.o.mono ?_;rintro e' w2 ⟨⟨b,rfl,hb⟩,bS⟩;obtain rfl:=hb.2 HM.o;have CW:=R2.o.below bS R2.o.lt;have CN:=R0.o.below bS R0.o.lt;have f0:w2.frozen? ⟨w.heap.size,0,none⟩=false:=CW.frozen 0 (by simp)
   have f1:w2.frozen? ⟨w.heap.size,1,none⟩=false:=CW.frozen 1 (by simp);have z0:w2.cell? ⟨w.heap.size,0,none⟩=some (.bool false):=CW.ab (i:=0) rfl;have z1:w2.cell? ⟨w.heap.size,1,none⟩=some (.slice none 0 0):=CW.ab (i:=1) rfl;have y0:w2.cell? ⟨w1.heap.size,0,none⟩=some (.bool false):=CN.ab (i:=0) rfl;have y1:w2.cell? ⟨w1.heap.size,1,none⟩=some (.slice none 0 0):=CN.ab (i:=1) rfl;have SG:=R2.o.lt;have CX:=xh ((CW.bG 0 (.bool false)).bG 1 (.slice none 0 0))
   have OX:=xh ((((ag.ai (S:=[]) (au RO.o bS)).setCell (p:=⟨w.heap.size,0,none⟩) (λh=>absurd h (by simp)) (.bool false)).setCell (p:=⟨w.heap.size,1,none⟩) (λh=>absurd h (by simp)) (.slice none 0 0)).dW);clear CW CN bS hb d0 d1;go_wp2_with fail;exact bodyPost_ret (fu rfl rfl CX.o) rfl ⟨.inr ⟨JZ.o,none,0,0,by rw[JY.o];rfl,aK.nil _ _ _,xh (λx hx=>by simp[ah]at hx)⟩,OX.o⟩
theorem zh(s:ByteArray)(w:World)(hs:s.size<=1000000)(hq:bX s.data.toList=0)(r0:List UInt8)(rest:List (List UInt8))(AO:r0=[2])(eV:rest≠[])(gQ:cI s.data.toList=r0::rest):
  Calls prog 122 #[.string s] w (mS (r0::rest) w):=by
 have B0:=aE.new w 118 #[.bool false,.slice none 0 0];have O0:=ae (Below.refl w.heap.size w) (.cells #[.bool false,.slice none 0 0] 118);have KA:=xh (mQ s (w.alloc (.cells #[.bool false,.slice none 0 0] 118)) hs);unfold mS bt;have O0:=xh O0;have B0:=xh B0;have hS:=(eu _).1 hq;have hm:=lQ hS;have Oc:=xh (kk hS);have hN:=cE s.data.toList;obtain⟨N,zg⟩:∃N,bT s.data.toList 0=N:=⟨_,rfl⟩;unfold lB at KA
 rw[hq,gQ,zg]at KA;rw[gQ,zg]at hN;rw[gQ]at hm Oc;clear hS hq gQ zg;go_enter func122,ntmps122;go_wp2_with fail;refine KA.o.mono ?_;rintro e w1 ⟨v,rfl,aJ,fr,hv⟩;have S1:aK w1 9 1 v N (strs (r0::rest)):=hv.elim (λh=>h.2) (λh=>absurd rfl h.1);have Cb:∀x∈ah v,w.heap.size+1<=x:=λx hx=>by have:=fr x hx;rw[uZ]at this;exact this
 obtain⟨V1,sM,rfl⟩:=ao S1;have O1:=xh (au O0.o aJ);have B1:=xh (B0.o.below aJ B0.o.lt);have f0:w1.frozen? ⟨w.heap.size,0,none⟩=false:=B1.o.frozen 0 (by simp);have f1:w1.frozen? ⟨w.heap.size,1,none⟩=false:=B1.o.frozen 1 (by simp);have z0:w1.cell? ⟨w.heap.size,0,none⟩=some (.bool false):=B1.o.ab (i:=0) rfl;have z1:w1.cell? ⟨w.heap.size,1,none⟩=some (.slice none 0 0):=B1.o.ab (i:=1) rfl
 have BZ:=xh ((B1.o.bG 0 (.bool false)).bG 1 (.slice none 0 0));have OZ:=xh (((((ag.ai (S:=[]) O1.o).setCell (p:=⟨w.heap.size,0,none⟩) (λh=>absurd h (by simp)) (.bool false)).setCell (p:=⟨w.heap.size,1,none⟩) (λh=>absurd h (by simp)) (.slice none 0 0))).dW);clear fr aJ hv;obtain rfl:N=rest.length+1:=by simpa using hN.symm
 obtain⟨g,rfl,ck⟩:=kR S1 0 (by simp);have hgw:w.heap.size<g:=Cb g (by simp[ah]);have hgl:g<w1.heap.size:=S1.lt g (by simp[ah]);have hwl1:=B1.o.lt;have Od:w1.cell? ⟨g,0,none⟩=some (.string ⟨r0.toArray⟩):=ck;have S1:=xh S1;have N7:rest.length<=56:=te hm;have uR:rest.length+1<=sM/\sM<=maxLen:=by
  obtain⟨r,_,h1,_,h2⟩:=S1.o.rp;simp at h1;exact⟨by first|omega|(simp;omega),h2⟩
 clear ck Cb KA hN hm;obtain⟨K0,Es⟩:∃K0:ByteArray,(⟨r0.toArray⟩:ByteArray)=K0:=⟨_,rfl⟩;rw[Es]at Od;have JX:K0.toList=r0:=by rw[bu,<-Es]
 clear Es;have hk:K0.toList=[2]:=by rw[JX];exact AO
 have SD:=xh AO;have k1:(K0.toList==[1])=false:=by rw[hk];decide
 have k2:(K0.toList==[2])=true:=by rw[hk];decide
 have k3:¬K0.toList=[1]:=by rw[hk];decide
 clear JX hk;have n1:¬(rest.length:Int)+1=0:=by omega
 have n2:((rest.length:Int)+1==0)=false:=by simpa using n1
 have mB:¬sM=1:=λh=>by
  have:0<rest.length:=sR.2 eV;omega
 have R0:=xh (show aE (w1.alloc (.cells #[.bool false,.slice none 0 0] 118)) w1.heap.size 118 #[.bool false,.slice none 0 0]from aE.new w1 _ _);have R2:=xh (B1.o.alloc (.cells #[.bool false,.slice none 0 0] 118));have RS:=xh (S1.o.alloc (.cells #[.bool false,.slice none 0 0] 118));have RO:=xh (au O1.o (ae (Below.refl _ _) (.cells #[.bool false,.slice none 0 0] 118)));go_wp2_with fail
 generalize hW6:(w1.alloc (.cells #[.bool false,.slice none 0 0] 118))=W6 at *;clear hW6 f0 f1 z0 z1 Od
 go_loopw [46] (λiv wr=> ∃(i:Nat) (v':Value),i<=rest.length/\iv=.int .i64 i/\aE wr w1.heap.size 118 #[.bool false,v']/\aE wr w.heap.size 118 #[.bool false,.slice none 0 0]/\aK wr 111 3 v' i (aH ((rest.take i).map λr=>gV ⟨r.toArray⟩))/\aK wr 9 1 (.slice (some ⟨g,0,none⟩) (rest.length+1) sM) (rest.length+1) (strs (r0::rest))/\Hid (∀r∈rest.take i,ie ⟨r.toArray⟩)/\Below w.heap.size w wr/\Hid (∀x∈ah v',w1.heap.size+1<=x)) (λiv _=>rest.length-(intOf iv).toNat)
 case atStart=>exact⟨0,_,bm _,rfl,R0.o,R2.o,aK.nil _ _ _,RS.o,xh (by simp),RO.o,xh (λx hx=>by simp[ah]at hx)⟩
 case round=>
  obtain⟨i,v',hi,rfl,C6,C2,S,RS,EO,O,F⟩:=hrel;obtain⟨VA,vc,rfl⟩:=ao S;have hltr:=C6.lt;have hg6:w1.heap.size∉ah (.slice VA i vc):=λhx=>by have:=F.o _ hx;omega
  have hg2:w.heap.size∉ah (.slice VA i vc):=λhx=>by have:=F.o _ hx;omega
  have NX:g∉ah (.slice VA i vc):=λhx=>by have:=F.o _ hx;omega
  by_cases h:i<rest.length
  .obtain⟨g',hgx,ck⟩:=kR RS (i+1) (by simp;omega);simp only[Option.some.injEq,Addr.mk.injEq,and_true]at hgx;subst hgx;have hri:(r0::rest)[i+1]'(by simp;omega)=rest[i]:=IA ..;rw[hri]at ck;have mM:rest[i].length<=232:=Oc.o _ (bz _ (j9 h));have HT:=xh (jO h);obtain⟨T,hT⟩:∃T:ByteArray,(⟨rest[i].toArray⟩:ByteArray)=T:=⟨_,rfl⟩;have hTs:T.size<=232:=by rw[<-hT,Sl.size_of_list];exact mM
   rw[hT]at ck;have HTT:=xh hT;have ck2:wr.cell? ((⟨g,1,none⟩:Addr).add i)=some (.string T):=by rw[eP,qB];exact ck
   have hiI:(i:Int)<(rest.length:Int):=by omega
   have ck3:wr.cell? ⟨g,1+i,none⟩=some (.string T):=by rw[qB];exact ck
   clear hT hri mM
   by_cases fy:ie T
   .have KE:=xh (λw=>Ce w T fy (by omega));have Bo:=xh fy;obtain⟨e,he⟩:∃e,gV T=e:=⟨_,rfl⟩;rw[he]at KE;have HE:=xh he;have SL:=xh S;have CL:=xh C6;have Eu:=xh C2;have RL:=xh RS;have OL:=xh O;unfold E.agg at KE;clear fy he S C6 C2 RS O;go_wp2_with fail;refine(KE.o _).mono ?_;rintro e' w2 ⟨rfl,bS⟩
    obtain⟨v2,w3,ea,S3,ow,f3⟩:=sr (P:=prog) ((SL.o.below bS).alloc (.cells #[.string e.key,.string e.val,.int .i64 e.aU] 111)) 108 108 (.agg #[.string .empty,.string .empty,.int .i64 0]) 40 underlying108 (by kernel_rfl) rfl e (by unfold maxLen;omega) (by omega);rw[uZ]at ea;obtain⟨V2,hJ,rfl⟩:=ao S3;have EA:=xh ea;have O2:=xh ((ag.ai (S:=ah (.slice VA i vc)) bS).alloc (.cells #[.string e.key,.string e.val,.int .i64 e.aU] 111))
    have OW:=O2.o.trans ow;have CW:=((CL.o.below bS CL.o.lt).alloc (.cells #[.string e.key,.string e.val,.int .i64 e.aU] 111)).only ow hg6;have c61:((w2.alloc (.cells #[.string e.key,.string e.val,.int .i64 e.aU] 111))).cell? ⟨w1.heap.size,1,none⟩=some (.slice VA i vc):=((CL.o.below bS CL.o.lt).alloc (.cells #[.string e.key,.string e.val,.int .i64 e.aU] 111)).ab (i:=1) rfl;have fz:w3.frozen? ⟨w1.heap.size,1,none⟩=false:=CW.frozen 1 (by simp)
    have cz:w3.cell? ⟨w1.heap.size,1,none⟩=some (.slice VA i vc):=CW.ab (i:=1) rfl;have hsz2:wr.heap.size<=w2.heap.size:=bS.size;have OX:=OW.mono (S':=w1.heap.size::ah (.slice VA i vc)) (λx hx _=>bz _ hx)|>.setCell (p:=⟨w1.heap.size,1,none⟩) (λ_=>by simp) (.slice V2 (i+1) hJ);have CX:=xh (CW.bG 1 (.slice V2 (i+1) hJ));have C2X:=xh (Eu.o.only OX (by simp;exact⟨by omega,hg2⟩))
    have RX:=xh (RL.o.only OX (λx hx=>by simp[ah]at hx;subst hx;simp;exact⟨by omega,NX⟩));have pk:∀x∈ah (.slice V2 (i+1) hJ),w1.heap.size+1<=x:=λx hx=>(f3 x hx).elim (F.o x) (λh=>by rw[uZ]at h;omega);have FX:=xh pk;have SX:=xh (S3.only ((ag.refl [w1.heap.size] w3).setCell (p:=⟨w1.heap.size,1,none⟩) (λ_=>by simp) (.slice V2 (i+1) hJ)) (λx hx=>by have:=pk x hx;simp;omega))
    have OB:=xh (OL.o.trans (OX.aO OL.o.size (λx hx=>by
     rcases ar.1 hx with rfl|hx
     .omega
     .have:=F.o x hx;omega)))
    have HSX:=xh (show aH ((rest.take (i+1)).map λr=>gV ⟨r.toArray⟩)=aH ((rest.take i).map λr=>gV ⟨r.toArray⟩)++e.cells from by
     rw[HT.o,cW,fS,eh,HTT.o,HE.o];simp[aH])
    have EX:=xh (show ∀r∈rest.take (i+1),ie ⟨r.toArray⟩from λr hr=>by
     rw[HT.o]at hr
     rcases az.1 hr with hr|hr
     .exact EO.o r hr
     .simp only[aP]at hr;rw[hr,HTT.o];exact Bo.o)
    clear ea S3 ow f3 OW CW OX pk bS;go_wp2_with fail;rw[EA.o];go_wp2_with fail;go_roundw
    case rel=>exact⟨i+1,_,by omega,by go_num,CX.o,C2X.o,by rw[HSX.o];exact SX.o,RX.o,EX,OB.o,FX⟩
    case measure=>simp[intOf];omega
   .have KE:=xh (λw=>Gr w T fy);have Bo:=xh fy;have LP:=xh (show ¬iD (r0::rest)from λhx=>fy (by rw[<-HTT.o];exact hx.2.1 _ (by rw[jN];exact j9 h)));have Eu:=xh C2;have OL:=xh O;unfold E.agg E.zero at KE;clear fy S C6 C2 RS O;go_wp2_with fail;refine(KE.o _).mono ?_;rintro e' w2 ⟨rfl,bS⟩;have CW:=(Eu.o.below bS Eu.o.lt).alloc (.cells #[.string .empty,.string .empty,.int .i64 0] 111)
    have f0:(w2.alloc (.cells #[.string .empty,.string .empty,.int .i64 0] 111)).frozen? ⟨w.heap.size,0,none⟩=false:=CW.frozen 0 (by simp);have f1:(w2.alloc (.cells #[.string .empty,.string .empty,.int .i64 0] 111)).frozen? ⟨w.heap.size,1,none⟩=false:=CW.frozen 1 (by simp);have z0:(w2.alloc (.cells #[.string .empty,.string .empty,.int .i64 0] 111)).cell? ⟨w.heap.size,0,none⟩=some (.bool false):=CW.ab (i:=0) rfl
    have z1:(w2.alloc (.cells #[.string .empty,.string .empty,.int .i64 0] 111)).cell? ⟨w.heap.size,1,none⟩=some (.slice none 0 0):=CW.ab (i:=1) rfl;have CX:=xh ((CW.bG 0 (.bool false)).bG 1 (.slice none 0 0))
    have OX:=xh ((((ag.ai (S:=[]) (au OL.o (ae bS (.cells #[.string .empty,.string .empty,.int .i64 0] 111)))).setCell (p:=⟨w.heap.size,0,none⟩) (λh=>absurd h (by simp)) (.bool false)).setCell (p:=⟨w.heap.size,1,none⟩) (λh=>absurd h (by simp)) (.slice none 0 0)).dW);have SG:=Eu.o.lt;clear CW bS;go_wp2_with fail;exact bodyPost_ret (fu rfl rfl CX.o) rfl ⟨.inl ⟨LP.o,rfl⟩,OX.o⟩
  .obtain rfl:i=rest.length:=by omega
   rw[gY]at S EO;have HE:=xh (show kT (r0::rest)=rest.map λr=>gV ⟨r.toArray⟩from rfl);have JY:=xh (show mR (r0::rest)=false from by simp[mR,SD.o]);rw[<-HE.o]at S;obtain⟨-,EN⟩:=aK.aH S;have KM:=xh (qT (w:=wr) false VA rest.length vc (kT (r0::rest)) EN (by omega))
   have HF:=xh (show(dD (kT (r0::rest)) false->iD (r0::rest))/\(iD (r0::rest)->dD (kT (r0::rest)) false)from⟨λhm=>⟨by rw[SD.o];simp,EO.o,by rw[JY.o];exact hm⟩,λhx=>by have:=hx.2.2;rw[JY.o]at this;exact this⟩);have d0:wr.cell? ⟨w1.heap.size,0,none⟩=some (.bool false):=C6.ab (i:=0) rfl;have d1:wr.cell? ⟨w1.heap.size,1,none⟩=some (.slice VA rest.length vc):=C6.ab (i:=1) rfl;have SL:=xh S;have CL:=xh C6;have Eu:=xh C2
   have OL:=xh O;unfold bt at KM;clear S C6 C2 RS O EN;go_wp2_with fail;refine KM.o.mono ?_;rintro e' w2 ⟨⟨b,rfl,hb⟩,bS⟩;have CW:=Eu.o.below bS Eu.o.lt;have CN:=CL.o.below bS CL.o.lt;have f0:w2.frozen? ⟨w.heap.size,0,none⟩=false:=CW.frozen 0 (by simp);have f1:w2.frozen? ⟨w.heap.size,1,none⟩=false:=CW.frozen 1 (by simp);have z0:w2.cell? ⟨w.heap.size,0,none⟩=some (.bool false):=CW.ab (i:=0) rfl
   have z1:w2.cell? ⟨w.heap.size,1,none⟩=some (.slice none 0 0):=CW.ab (i:=1) rfl;have y0:w2.cell? ⟨w1.heap.size,0,none⟩=some (.bool false):=CN.ab (i:=0) rfl;have y1:w2.cell? ⟨w1.heap.size,1,none⟩=some (.slice VA rest.length vc):=CN.ab (i:=1) rfl;have SG:=Eu.o.lt
   cases b
   .have LP:=xh (show ¬iD (r0::rest)from λhx=>by have:=hb.2 (HF.o.2 hx);cases this);have CX:=xh ((CW.bG 0 (.bool false)).bG 1 (.slice none 0 0));have OX:=xh ((((ag.ai (S:=[]) (au OL.o bS)).setCell (p:=⟨w.heap.size,0,none⟩) (λh=>absurd h (by simp)) (.bool false)).setCell (p:=⟨w.heap.size,1,none⟩) (λh=>absurd h (by simp)) (.slice none 0 0)).dW);clear CW CN bS hb d0 d1;go_wp2_with fail
    exact bodyPost_ret (fu rfl rfl CX.o) rfl ⟨.inl ⟨LP.o,rfl⟩,OX.o⟩
   .have JZ:=xh (HF.o.1 (hb.1 rfl));have CX:=xh ((CW.bG 0 (.bool false)).bG 1 (.slice VA rest.length vc));have OX:=xh ((((ag.ai (S:=[]) (au OL.o bS)).setCell (p:=⟨w.heap.size,0,none⟩) (λh=>absurd h (by simp)) (.bool false)).setCell (p:=⟨w.heap.size,1,none⟩) (λh=>absurd h (by simp)) (.slice VA rest.length vc)).dW)
    have SX:=xh ((SL.o.below bS).only (((ag.refl [w.heap.size] w2).setCell (p:=⟨w.heap.size,0,none⟩) (λ_=>by simp) (.bool false)).setCell (p:=⟨w.heap.size,1,none⟩) (λ_=>by simp) (.slice VA rest.length vc)) (λx hx=>by simp;exact λhxx=>hg2 (hxx▸hx)));clear CW CN bS hb d0 d1;go_wp2_with fail;exact bodyPost_ret (fu rfl rfl CX.o) rfl ⟨.inr (⟨JZ.o,VA,rest.length,vc,by rw[JY.o];rfl,SX.o,xh (λx hx=>by have:=F.o x hx;omega)⟩),OX.o⟩
def Ew(s:ByteArray)(w:World)(e:Ending)(w':World):Prop:=
 (bX s.data.toList≠0/\e=.returned (.tuple #[bt false none 0 0,.int .i64 (bX s.data.toList)])/\Below w.heap.size w w')\/(bX s.data.toList=0/\mS (cI s.data.toList) w e w')
theorem got_any(s:ByteArray)(w:World)(hs:s.size<=1000000):
  Calls prog 122 #[.string s] w (Ew s w):=by
 by_cases hq:bX s.data.toList=0
 .have lift:∀{rs},cI s.data.toList=rs->Calls prog 122 #[.string s] w (mS rs w)->Calls prog 122 #[.string s] w (Ew s w):=λh k=>k.mono λe w' h2=> .inr ⟨hq,by rw[h];exact h2⟩
  match gQ:cI s.data.toList with
  |[]=>exact lift gQ (got_nil s w hs hq gQ)
  |r0::rest=>
   refine lift gQ ?_
   by_cases h1:r0=[1]
   .by_cases eV:rest=[]
    .subst eV;exact Et s w hs hq r0 h1 gQ
    .exact AR s w hs hq r0 rest h1 eV gQ
   .by_cases h2:r0=[2]
    .by_cases eV:rest=[]
     .subst eV;exact AS s w hs hq r0 h2 gQ
     .exact zh s w hs hq r0 rest h2 eV gQ
    .exact got_odd s w hs hq r0 rest h1 h2 gQ
 .have HQ:=xh hq;have B0:=aE.new w 118 #[.bool false,.slice none 0 0];have O0:=ae (Below.refl w.heap.size w) (.cells #[.bool false,.slice none 0 0] 118);have KA:=xh (mQ s (w.alloc (.cells #[.bool false,.slice none 0 0] 118)) hs);unfold Ew bt;have O0:=xh O0;have B0:=xh B0;unfold lB at KA;generalize bX s.data.toList=q at *;go_enter func122,ntmps122;go_wp2_with fail;refine KA.o.mono ?_;rintro e w1 ⟨v,rfl,aJ,fr,hv⟩
  rcases hv with⟨h0,-⟩|⟨-,rfl⟩
  .exact absurd h0 hq
  have O1:=xh (au O0.o aJ);have B1:=xh (B0.o.below aJ B0.o.lt);have f0:w1.frozen? ⟨w.heap.size,0,none⟩=false:=B1.o.frozen 0 (by simp);have f1:w1.frozen? ⟨w.heap.size,1,none⟩=false:=B1.o.frozen 1 (by simp);have z0:w1.cell? ⟨w.heap.size,0,none⟩=some (.bool false):=B1.o.ab (i:=0) rfl;have z1:w1.cell? ⟨w.heap.size,1,none⟩=some (.slice none 0 0):=B1.o.ab (i:=1) rfl;have BZ:=xh ((B1.o.bG 0 (.bool false)).bG 1 (.slice none 0 0))
  have OZ:=xh (((((ag.ai (S:=[]) O1.o).setCell (p:=⟨w.heap.size,0,none⟩) (λh=>absurd h (by simp)) (.bool false)).setCell (p:=⟨w.heap.size,1,none⟩) (λh=>absurd h (by simp)) (.slice none 0 0))).dW);have q2:(q==0)=false:=by simpa using hq
  clear fr aJ KA;go_wp2_with fail;exact bodyPost_ret (fu rfl rfl BZ.o) rfl (.inl ⟨HQ.o,rfl,OZ.o⟩)
end Nd
namespace Nd
open Go.RowKit Sl
variable{l:List E}{leaf:Bool}
theorem qU(e:E):(tR e).data.toList=pT e:=by simp[tR]
theorem Oe(e:E):(pT e).drop 1=e.key.data.toList++(fA (e.aU+1).toNat++e.val.data.toList):=rfl
theorem zi(e:E)(h:e.key.size<=32):mf (tR e)=e.key.size:=by
 unfold mf;rw[qU];show(UInt8.ofNat e.key.size).toNat=e.key.size;rw[gZ];omega
theorem Ch(e:E):(tR e).size=3+e.key.size+e.val.size:=by
 unfold tR;rw[Sl.size_of_list,pU]
theorem Gt(e:E)(h:e.key.size<=32):ie (tR e):=by
 unfold ie;rw[zi e h,Ch];omega
theorem keyL(e:E):e.key.data.toList.length=e.key.size:=by simp
theorem J0(e:E)(h:e.key.size<=32)(h1: -1<=e.aU)(h2:e.aU<=511):gV (tR e)=e:=by
 obtain⟨m,hm⟩:=dL (show 0<=e.aU+1 by omega);have hk:=keyL e;have hd:=Oe e;have d2:(pT e).drop (1+e.key.size)=fA (e.aU+1).toNat++e.val.data.toList:=by
  rw[<-ji,hd,C9 (by omega),<-hk,Iv,cX]
 have d3:(pT e).drop (3+e.key.size)=e.val.data.toList:=by
  rw[show 3+e.key.size=(1+e.key.size)+2 by omega,<-ji,d2];rfl
 unfold gV;rw[zi e h];have a1:(tR e).extract 1 (1+e.key.size)=e.key:=by
  rw[oI,qU,hd,qz (by omega),<-hk,gY]
 have a2:(tR e).extract (3+e.key.size) (tR e).size=e.val:=by
  rw[Ch,oI,qU,d3,bY (by simp)]
 have a3:bT (tR e).data.toList (1+e.key.size)=m:=by
  rw[qU];have g0:(pT e).getD (1+e.key.size) 0=UInt8.ofNat (m / 256):=by
   have:=congrArg (λl=>l.getD 0 0) d2;simp only[jj,iT,kE]at this;rw[jj,this,hm];rfl
  have g1:(pT e).getD (1+e.key.size+1) 0=UInt8.ofNat m:=by
   have:=congrArg (λl=>l.getD 1 0) d2;simp only[jj,iT]at this;rw[jj,this,hm];rfl
  unfold bT;rw[g0,g1,gZ,gZ];omega
 rw[a1,a2,a3];obtain⟨k,v,f⟩:=e;dsimp only at *;rw[show((m:Nat):Int)-1=f by omega]
theorem zj(hm:dD l leaf)(e:E)(he:e∈l):e.key.size<=32/\e.val.size<=40/\ -1<=e.aU/\e.aU<=511:=by
 obtain⟨i,hi,rfl⟩:=pB he;have h2:=(zc l[i] leaf).1 (hm i hi l[i] (aT hi)).1;exact⟨h2.1,h2.2.1,h2.2.2.1,h2.2.2.2.1⟩
theorem zk(hm:dD l leaf):kT (ig leaf l)=l:=by
 unfold kT ig;rw[jN,jf];have:l.map ((λr=>gV ⟨r.toArray⟩) ∘ pT)=l.map id:=by
  apply iK;intro e he;obtain⟨b1,b2,b3,b4⟩:=zj hm e he;exact J0 e b1 b3 b4
 rw[this,List.map_id]
theorem zm(leaf:Bool)(l:List E):mR (ig leaf l)=leaf:=by
 unfold mR ig Cg
 cases leaf<;>simp
theorem Gu(hm:dD l leaf):iD (ig leaf l):=by
 refine⟨?_,?_,?_⟩
 .unfold ig Cg
  cases leaf<;>simp
 .intro r hr;unfold ig at hr;rw[jN]at hr;obtain⟨e,he,rfl⟩:=cg.1 hr;exact Gt e (zj hm e he).1
 .rw[zk hm,zm];exact hm
def l0:List E:=[⟨⟨#[97]⟩,⟨#[120]⟩,-1⟩,⟨⟨#[99]⟩,⟨#[]⟩,7⟩]
variable{w:World}{t g j:Nat}{u:TypeId}{l:List E}{rest:List Value}{m7 R:Int}
section
open Go.RowKit Sl
attribute [local go_sem ↓] Go.wp_at_zero Go.wp_at_succ bq
def jY(l:List E)(i:Nat):Int:=max ((an (l.take i):Int)-((an l:Int)-an (l.take i))) ((an l:Int)-an (l.take i)-an (l.take i))
def vf(l:List E)(m t:Nat):Prop:=1<=t/\t<m/\(∀j,1<=j->j<m->jY l t<=jY l j)/\∀j,1<=j->j<t->jY l t<jY l j
theorem vg(l:List E)(k:Nat):(aH l).take (k*3)=aH (l.take k):=by
 induction l generalizing k with
 |nil=>simp[aH]
 |cons e l ih=>
  cases k with
  |zero=>simp[aH]
  |succ k=>
   rw[kl,mJ,kl,show(k+1)*3=e.cells.length+k*3 by simp[E.cells];omega,List.take_length_add_append,ih]
theorem lR(l:List E)(k:Nat):(aH l).drop (k*3)=aH (l.drop k):=by
 induction l generalizing k with
 |nil=>simp[aH]
 |cons e l ih=>
  cases k with
  |zero=>simp[aH]
  |succ k=>
   rw[kl,xW,show(k+1)*3=e.cells.length+k*3 by simp[E.cells];omega,List.drop_length_add_append,ih]
theorem kU(l:List E):∀v∈aH l,v.oneCell'=true:=by
 intro v hv;simp only[aH,lq]at hv;obtain⟨e,_,hv⟩:=hv;simp[E.cells]at hv
 rcases hv with rfl|rfl|rfl<;>rfl
theorem wo{P:Program}{t:TypeId}{v:Value}{n:Nat}{l0:List E}(S:aK w t 3 v n (aH l0))(B:aE w g u (aH l++rest).toArray)(o m c:Nat)(hom:o+m<=l.length)
 (T ty:TypeId)(z:Value)(bytes:Nat)(ht:P.underlying T=some (.slice t))(l6:(P.info? t).map (λi=>(i.zero,i.size,i.bytes))=some (some z,3,bytes))(hz:z.cells.size=3)
 (Dt:n+m<=maxLen)(hb:(n+m)*bytes<=140737488355328):
  ∃v' w',df P T ty w v (.slice (some ⟨g,o*3,none⟩) m c)= .ok v' w'/\aK w' t 3 v' (n+m) (aH (l0++(l.drop o).take m))/\ag (ah v) w w'/\(∀x∈ah v',x∈ah v\/w.heap.size<=x):=by
 obtain⟨i0,hi,ke,iX,jF⟩:=info_parts l6;have hlen:(aH ((l.drop o).take m)).length=m*3:=by rw[ax,bK,de];congr 1;omega
 obtain⟨v',w',h1,h2,h3,h4⟩:=di (P:=P) S T ty i0 z bytes ht hi ke iX jF hz (by omega)
  ⟨g,o*3,none⟩ m c (aH ((l.drop o).take m)) hlen (λj x hx=>by
   have hj:j<m*3:=by rw[<-hlen];exact(aX.1 hx).1
   rw[eP];refine(B.cell _).trans ?_;rw[<-vg,<-lR,ya,if_pos hj,iT]at hx;rw[cM,bD (by rw[ax];omega)];exact hx) (kU _) Dt hb
 exact⟨v',w',h1,by rw[fS];exact h2,h3,h4⟩
theorem Of(B:aE w g u (aH l++rest).toArray)(j:Nat)(e:E)(he:l[j]?=some e):oJ w (some ⟨g,j*3,none⟩) 1 [e]:=by
 refine⟨rfl,λk x hx=>?_⟩;have hk:k=0:=by have:=(aX.1 hx).1;simp at this;exact this
 subst hk;simp only[rR,Option.some.injEq]at hx;subst hx;have:=Gs B j e he;rw[eP,bh]at this;exact⟨_,rfl,by rw[n7,Addr.add,if_pos rfl];exact this⟩
theorem SH(l:List E)(i:Nat):0<=jY l i:=by unfold jY;omega
def qV(l:List E)(j t:Nat)(m7:Int):Prop:=(j=0/\m7= -1/\t=1)\/(0<j/\vf l (j+1) t/\m7=jY l t)
theorem Ci(h:qV l j t m7)(hR:R=jY l (j+1))(hb:m7<0\/R<m7):qV l (j+1) (j+1) R:=by
 have lt:∀i,1<=i->i<j+1->jY l (j+1)<jY l i:=λi hi1 Sf=>by
  rcases h with⟨rfl,_,_⟩|⟨h0,hB,wY⟩
  .omega
  .have:=hB.2.2.1 i hi1 Sf;have:=SH l t;omega
 refine .inr ⟨by omega,⟨by omega,by omega,λi hi1 Sf=>?_,lt⟩,hR⟩
 rcases eT i (j+1)with h1|h1
 .have:=lt i hi1 h1;omega
 .obtain rfl:i=j+1:=by omega
  exact jK _
theorem Cj(h:qV l j t m7)(hR:R=jY l (j+1))(h1:¬m7<0)(h2:¬R<m7):qV l (j+1) t m7:=by
 rcases h with⟨rfl,hb,_⟩|⟨h0,hB,wY⟩
 .omega
 .refine .inr ⟨by omega,⟨hB.1,by have:=hB.2.1;omega,λi hi1 Sf=>?_,hB.2.2.2⟩,wY⟩
  rcases eT i (j+1)with h3|h3
  .exact hB.2.2.1 i hi1 h3
  .obtain rfl:i=j+1:=by omega
   omega
theorem J1(leaf:Bool)(A:Option Addr)(n c:Nat)(l:List E)(S:aK w 111 3 (.slice A n c) n (aH l))(hn:2<=n)(Qt:n<=100)(hb:an l<=100000):
  Calls prog 129 #[bt leaf A n c] w λr w'=>(∃t A1 c1 A2 c2,r=.returned (.tuple #[bt leaf A1 t c1,bt leaf A2 (n-t) c2])/\vf l n t/\aK w' 111 3 (.slice A1 t c1) t (aH (l.take t))/\aK w' 111 3 (.slice A2 (n-t) c2) (n-t) (aH (l.drop t))/\∀x∈ah (.slice A2 (n-t) c2),w.heap.size<=x)/\Below w.heap.size w w':=by
 obtain⟨g,cap,rest,hv,BG,hcn,Og⟩:=S.form (by omega) (by omega);simp only[Value.slice.injEq,true_and]at hv;obtain⟨rfl,rfl⟩:=hv;have uj:c<=maxLen:=by obtain⟨_,_,_,_,h⟩:=S.rp;exact h
 have oU:l.length=n:=by have:=S.1;rw[ax]at this;omega
 have nt:=xh oU;have hgl:=BG.lt;have B1:=xh (((aE.new w 118 #[.bool leaf,.slice (some ⟨g,0,none⟩) n c]).alloc (.cells #[.bool false,.slice none 0 0] 118)).alloc (.cells #[.bool false,.slice none 0 0] 118));have B2:=(aE.new (w.alloc (.cells #[.bool leaf,.slice (some ⟨g,0,none⟩) n c] 118)) 118 #[.bool false,.slice none 0 0]).alloc (.cells #[.bool false,.slice none 0 0] 118)
 have B3:=aE.new ((w.alloc (.cells #[.bool leaf,.slice (some ⟨g,0,none⟩) n c] 118)).alloc (.cells #[.bool false,.slice none 0 0] 118)) 118 #[.bool false,.slice none 0 0];rw[uZ]at B2;rw[uZ,uZ]at B3;have B2:=xh B2;have B3:=xh B3;have O0:=xh (ae (ae (ae (Below.refl w.heap.size w) (.cells #[.bool leaf,.slice (some ⟨g,0,none⟩) n c] 118)) (.cells #[.bool false,.slice none 0 0] 118)) (.cells #[.bool false,.slice none 0 0] 118))
 have G0:=xh (((BG.alloc (.cells #[.bool leaf,.slice (some ⟨g,0,none⟩) n c] 118)).alloc (.cells #[.bool false,.slice none 0 0] 118)).alloc (.cells #[.bool false,.slice none 0 0] 118));have E0:=xh (((S.alloc (.cells #[.bool leaf,.slice (some ⟨g,0,none⟩) n c] 118)).alloc (.cells #[.bool false,.slice none 0 0] 118)).alloc (.cells #[.bool false,.slice none 0 0] 118));clear BG S oU;unfold bt;go_enter func129,ntmps129
 have bx1:(((w.alloc (.cells #[.bool leaf,.slice (some ⟨g,0,none⟩) n c] 118)).alloc (.cells #[.bool false,.slice none 0 0] 118)).alloc (.cells #[.bool false,.slice none 0 0] 118)).cell? ⟨w.heap.size,1,none⟩=some (.slice (some ⟨g,0,none⟩) n c):=B1.o.ab (i:=1) rfl;go_wp2_with fail;generalize hW:(((w.alloc (.cells #[.bool leaf,.slice (some ⟨g,0,none⟩) n c] 118)).alloc (.cells #[.bool false,.slice none 0 0] 118)).alloc (.cells #[.bool false,.slice none 0 0] 118))=W at *;clear hW
 refine(Cf (w:=W) (some ⟨g,0,none⟩) n c l (aK.aH E0.o).2 (by omega) (by omega)).mono ?_;rintro r w1 ⟨rfl,aJ⟩;have O1:=xh (au O0.o aJ);have C1:=xh (B1.o.below aJ B1.o.lt);have C2:=xh (B2.o.below aJ B2.o.lt);have C3:=xh (B3.o.below aJ B3.o.lt);have G1:=xh (G0.o.below aJ G0.o.lt);have hwl:=C1.o.lt;have x1:w1.cell? ⟨w.heap.size,1,none⟩=some (.slice (some ⟨g,0,none⟩) n c):=C1.o.ab (i:=1) rfl
 obtain⟨all,iV⟩:∃all,an l=all:=⟨_,rfl⟩;have HALL:=xh iV;rw[iV]at hb ⊢;have hm1:min (1:Int) (n:Int)=1:=by omega
 clear aJ iV bx1;go_wp2_with fail;go_quiet (fail);go_wp2_with fail;have x0:w1.cell? ⟨w.heap.size,0,none⟩=some (.bool leaf):=C1.o.ab (i:=0) rfl
 go_loopw [5,6,7,8] (λbv av lv iv wr=> ∃(j t:Nat) (m7:Int),j+1<=n/\bv=.int .i64 m7/\av=.int .i64 (t:Nat)/\lv=.int .i64 (an (l.take j):Nat)/\iv=.int .i64 ((j:Int)+1)/\Hid (qV l j t m7)/\Below w1.heap.size w1 wr) (λ_ _ _ iv _=>n-(intOf iv).toNat)
 case atStart=>exact⟨0,1,-1,by omega,rfl,rfl,by simp[an],rfl,xh (.inl ⟨rfl,rfl,rfl⟩),cD (Below.refl _ _) _⟩
 case round=>
  obtain⟨j,t,m7,hj,rfl,rfl,rfl,rfl,BI,O⟩:=hrel;have D1:=xh (C1.o.below O C1.o.lt);have y1:wr.cell? ⟨w.heap.size,1,none⟩=some (.slice (some ⟨g,0,none⟩) n c):=D1.o.ab (i:=1) rfl
  by_cases h:j+1<n
  .have he:=aT (show j<l.length by rw[nt.o];omega);obtain⟨e,hee⟩:∃e,l[j]'(by rw[nt.o];omega)=e:=⟨_,rfl⟩;rw[hee]at he;have hs:=kS l j e he;have ht:=pS l (j+1);have hone:an [e]=e.key.size+e.val.size+7:=by simp[an]
   rw[HALL.o]at ht;have KB:=xh (λcc=>Cf (w:=wr) (some ⟨g,j*3,none⟩) 1 cc [e] (Of (G1.o.below O G1.o.lt) j e he) (by omega) (by rw[hone];omega));have HRF:=xh (show jY l (j+1)=max ((an (l.take (j+1)):Int)-((all:Int)-an (l.take (j+1)))) ((all:Int)-an (l.take (j+1))-an (l.take (j+1)))from by unfold jY;rw[HALL.o]);obtain⟨P,hP⟩:∃P,an (l.take j)=P:=⟨_,rfl⟩;obtain⟨q,hq⟩:∃q,an (l.take (j+1))=q:=⟨_,rfl⟩
   obtain⟨ce,hce⟩:∃ce,an [e]=ce:=⟨_,rfl⟩;rw[hce]at KB hone;rw[hP,hq]at hs;rw[hq]at ht HRF;rw[hP];have HQ:=xh hq;have hqP:(P:Int)+(ce:Int)=(q:Int):=by omega
   have s1:IntKind.i64.wrap ((P:Int)+(ce:Int))=(q:Int):=by rw[hqP];exact IntWalk.i64_in _ (by omega)
   have s2:IntKind.i64.wrap ((all:Int)-(q:Int))=(all:Int)-(q:Int):=IntWalk.i64_in _ (by omega);have s3:IntKind.i64.wrap ((q:Int)-((all:Int)-(q:Int)))=(q:Int)-((all:Int)-(q:Int)):=IntWalk.i64_in _ (by omega);have s4:IntKind.i64.wrap ((all:Int)-(q:Int)-(q:Int))=(all:Int)-(q:Int)-(q:Int):=IntWalk.i64_in _ (by omega);have s5:IntKind.i64.wrap (j:Int)=(j:Int):=IntWalk.i64_in _ (by omega);have s6:IntKind.i64.wrap ((j:Int)+1-1)=(j:Int):=by rw[Int.add_sub_cancel];exact s5
   have s7:IntKind.i64.wrap ((j:Int)+1+1)=(j:Int)+1+1:=IntWalk.i64_in _ (by omega);have s8:(j:Int)+1<(n:Int):=by omega
   have s9:(j:Int)<=(j:Int)+1:=by omega
   have s10:(j:Int)+1<=(c:Int):=by omega
   have s11:((j:Int)+1).toNat=j+1:=by omega
   have s12:(0:Int)<=(j:Int)+1:=by omega
   have OO:=xh O;clear he hee hs hone hP hq hce O;go_wp2_with fail;refine(KB.o _).mono ?_;rintro r w2 ⟨rfl,bS⟩;have O2:=xh (au OO.o bS);clear bS;go_wp2_with fail
   all_goals
    have hRI:∀R:Int,R=(if((q:Int)-((all:Int)-q))<(all:Int)-q-q then(all:Int)-q-q else(q:Int)-((all:Int)-q))->R=jY l (j+1):=λR h=>by rw[h,HRF.o];split<;>omega
    refine⟨?_,by simp[intOf];omega⟩
    first
     |exact⟨j+1,t,m7,by omega,rfl,rfl,by rw[HQ.o],by go_num,xh (Cj BI.o (hRI _ (by first|rfl|(split<;>omega))) (by first|assumption|omega) (by first|assumption|omega)),O2.o⟩
     |exact⟨j+1,j+1,_,by omega,rfl,by go_num,by rw[HQ.o],by go_num,xh (Ci BI.o (hRI _ (by first|rfl|(split<;>omega))) (by first|(left;assumption)|(right;assumption)|omega)),O2.o⟩
  .obtain rfl:n=j+1:=by omega
   have D2:=xh (C2.o.below O C2.o.lt);have D3:=xh (C3.o.below O C3.o.lt);have G2:=xh (G1.o.below O G1.o.lt);have y0:wr.cell? ⟨w.heap.size,0,none⟩=some (.bool leaf):=D1.o.ab (i:=0) rfl;have HBT:=xh (show vf l (j+1) t from by
    rcases BI.o with⟨rfl,_,_⟩|⟨_,hB,_⟩
    .omega
    .exact hB)
   have ht1:=HBT.o.1;have ht2:=HBT.o.2.1;have OO:=xh (au O1.o O);have s8:¬(j:Int)+1<((j+1:Nat):Int):=by omega
   have t1:(t:Int)<=(c:Int):=by omega
   have t2:(t:Int)<=((j+1:Nat):Int):=by omega
   have t3:t<c:=by omega
   have t4:¬t=c:=by omega
   clear O;go_wp2_with fail;have t5:(t:Int)<=(j:Int)+1:=by omega
   have t6:¬c=t:=by omega
   have HK:=xh (show ∀W',ag [w.heap.size+1,w.heap.size+1+1] wr W'->(W'.cell? ⟨w.heap.size,0,none⟩=some (.bool leaf)/\W'.cell? ⟨w.heap.size,1,none⟩=some (.slice (some ⟨g,0,none⟩) (j+1) c))from λW' ho=>⟨(D1.o.only ho (by simp;omega)).ab (i:=0) rfl,(D1.o.only ho (by simp;omega)).ab (i:=1) rfl⟩)
   have HK0:=xh (show ∀W',ag [] wr W'->(W'.cell? ⟨w.heap.size,0,none⟩=some (.bool leaf)/\W'.cell? ⟨w.heap.size,1,none⟩=some (.slice (some ⟨g,0,none⟩) (j+1) c))from λW' ho=>HK.o W' (ho.mono (λx hx _=>absurd hx (by simp))));have OD:=xh ((ag.refl [] wr).drew);have GD:=xh (G2.o.drew);have hd2:=D2.o.lt;have hd3:=D3.o.lt
   have AP1:=xh (show ∀W' u,aE W' g u (aH l++rest).toArray->∃V1 k1 w2,df prog 108 108 W' (.slice none 0 0) (.slice (some ⟨g,0,none⟩) t t)= .ok (.slice V1 t k1) w2/\aK w2 111 3 (.slice V1 t k1) t (aH (l.take t))/\ag [] W' w2/\(∀x∈ah (.slice V1 t k1),W'.heap.size<=x)from λW' u B=>by
    obtain⟨v,w2,e1,S,o,f⟩:=wo (P:=prog) (l0:=[]) (aK.nil W' 111 3) B 0 t t (by rw[nt.o];omega) 108 108 (.agg #[.string .empty,.string .empty,.int .i64 0]) 40 underlying108 (by kernel_rfl) rfl (by unfold maxLen;omega) (by omega);rw[bh,cX,xX]at S;obtain⟨V1,k1,rfl⟩:=ao S;exact⟨V1,k1,w2,e1,S,o,λx hx=>(f x hx).elim (λh=>by simp[ah]at h) id⟩)
   have AP2:=xh (show ∀W' u,aE W' g u (aH l++rest).toArray->∃V1 k1 w2,df prog 108 108 W' (.slice none 0 0) (.slice (some ⟨g,t*3,none⟩) (j+1-t) (c-t))= .ok (.slice V1 (j+1-t) k1) w2/\aK w2 111 3 (.slice V1 (j+1-t) k1) (j+1-t) (aH (l.drop t))/\ag [] W' w2/\(∀x∈ah (.slice V1 (j+1-t) k1),W'.heap.size<=x)from λW' u B=>by
    obtain⟨v,w2,e1,S,o,f⟩:=wo (P:=prog) (l0:=[]) (aK.nil W' 111 3) B t (j+1-t) (c-t) (by rw[nt.o];omega) 108 108 (.agg #[.string .empty,.string .empty,.int .i64 0]) 40 underlying108 (by kernel_rfl) rfl (by unfold maxLen;omega) (by omega);rw[bh,cX,bY (by rw[de,nt.o];exact aj _)]at S;obtain⟨V1,k1,rfl⟩:=ao S;exact⟨V1,k1,w2,e1,S,o,λx hx=>(f x hx).elim (λh=>by simp[ah]at h) id⟩)
   refine wp_region_held_drew (S:=λW'=>W'.cell? ⟨w.heap.size,0,none⟩=some (.bool leaf)/\W'.cell? ⟨w.heap.size,1,none⟩=some (.slice (some ⟨g,0,none⟩) (j+1) c)) (by kernel_rfl) (HK0.o _ OD.o) (λaq=>?_);refine cV [(0,53),(1,54),(2,55),(3,56),(4,57),(5,58),(6,59),(9,62),(10,63),(11,64),(12,65),(13,66),(14,67)] ?_
   iterate 13 refine bj ?_
   refine dn 7 60 λK hK=>?_
   .obtain⟨Va,ka,w2,ea,Sa,oa,fa⟩:=AP1.o _ _ GD.o;have Oa:=xh (OD.o.trans oa);obtain⟨Vb,kb,w3,eb,Sb,ob,fb⟩:=AP2.o _ _ (GD.o.only oa (by simp));have Ob:=xh (Oa.o.trans ob);have E1:=xh ea;have E2:=xh eb;have Sa3:=Sa.only ob (by simp);have Fa:=xh (show ∀x∈ah _,wr.heap.size<=x from fa);have Fb:=xh (show ∀x∈ah _,wr.heap.size<=x from λx hx=>ay oa.size (fb x hx));have D23:=D2.o.only Ob.o (by simp);have D33:=D3.o.only Ob.o (by simp)
    clear ea eb;go_simp;rw[E1.o];go_simp;refine aW hK (HK0.o _ Oa.o) (λaq=>?_);refine cV [(8,61)] ?_
    iterate 1 refine bj ?_
    refine dn 15 68 λK hK=>?_;go_simp;rw[E2.o];go_simp;refine aW hK (HK0.o _ Ob.o) (λaq=>?_);refine cV [(16,69)] ?_
    iterate 1 refine bj ?_
    refine zpe ?_;have p0:w3.frozen? ⟨w.heap.size+1,0,none⟩=false:=D23.frozen 0 (by simp);have p1:w3.frozen? ⟨w.heap.size+1,1,none⟩=false:=D23.frozen 1 (by simp);have p2:w3.cell? ⟨w.heap.size+1,0,none⟩=some (.bool false):=D23.ab (i:=0) rfl;have p3:w3.cell? ⟨w.heap.size+1,1,none⟩=some (.slice none 0 0):=D23.ab (i:=1) rfl;have r0:w3.frozen? ⟨w.heap.size+1+1,0,none⟩=false:=D33.frozen 0 (by simp);have r1:w3.frozen? ⟨w.heap.size+1+1,1,none⟩=false:=D33.frozen 1 (by simp)
    have r2:w3.cell? ⟨w.heap.size+1+1,0,none⟩=some (.bool false):=D33.ab (i:=0) rfl;have r3:w3.cell? ⟨w.heap.size+1+1,1,none⟩=some (.slice none 0 0):=D33.ab (i:=1) rfl;have OX1:=xh (((Ob.o.mono (S':=[w.heap.size+1,w.heap.size+1+1]) (λx hx _=>absurd hx (by simp))).setCell (p:=⟨w.heap.size+1,0,none⟩) (λ_=>by simp) (.bool leaf)).setCell (p:=⟨w.heap.size+1,1,none⟩) (λ_=>by simp) (.slice Va t ka))
    have OX2:=xh ((OX1.o.setCell (p:=⟨w.heap.size+1+1,0,none⟩) (λ_=>by simp) (.bool leaf)).setCell (p:=⟨w.heap.size+1+1,1,none⟩) (λ_=>by simp) (.slice Vb (j+1-t) kb));have BX2:=xh ((((D23.bG 0 (.bool leaf)).bG 1 (.slice Va t ka)).aU (p:=⟨w.heap.size+1+1,0,none⟩) (by simp) (.bool leaf)).aU (p:=⟨w.heap.size+1+1,1,none⟩) (by simp) (.slice Vb (j+1-t) kb))
    have BX3:=xh ((((D33.aU (p:=⟨w.heap.size+1,0,none⟩) (by simp) (.bool leaf)).aU (p:=⟨w.heap.size+1,1,none⟩) (by simp) (.slice Va t ka)).bG 0 (.bool leaf)).bG 1 (.slice Vb (j+1-t) kb))
    have OS:=xh ((((((ag.refl [w.heap.size+1,w.heap.size+1+1] w3).setCell (p:=⟨w.heap.size+1,0,none⟩) (λ_=>by simp) (.bool leaf)).setCell (p:=⟨w.heap.size+1,1,none⟩) (λ_=>by simp) (.slice Va t ka)).setCell (p:=⟨w.heap.size+1+1,0,none⟩) (λ_=>by simp) (.bool leaf)).setCell (p:=⟨w.heap.size+1+1,1,none⟩) (λ_=>by simp) (.slice Vb (j+1-t) kb)));have SX1:=xh (Sa3.only OS.o (λx hx=>by have:=Fa.o x hx;simp;omega))
    have SX2:=xh (Sb.only OS.o (λx hx=>by have:=Fb.o x hx;simp;omega));have OB:=xh (OO.o.trans (OX2.o.aO OO.o.size (λx hx=>by simp at hx;omega)));clear Sa Sb Sa3 oa ob fa fb D23 D33;refine mW 17 λK hK=>?_;go_simp;refine aW hK (HK.o _ OX1.o) (λaq=>?_);refine mW 18 λK hK=>?_;go_simp;refine aW hK (HK.o _ OX2.o) (λaq=>?_);refine wpAnyH_done (by kernel_rfl) ?_ _;go_wp2_with fail
    exact bodyPost_ret (JW rfl rfl rfl BX2.o BX3.o) rfl ⟨⟨t,_,_,_,_,rfl,HBT.o,SX1.o,SX2.o,λx hx=>ay OO.o.size (Fb.o x hx)⟩,OB.o⟩
end
section
open Go.RowKit Sl Go.Deep Go.ChangeShapes Go.WideShapes
def cost(e:E):Nat:=e.key.size+e.val.size+7
theorem AU(l m:List E):an (l++m)=an l+an m:=by simp[an]
theorem wu(l:List E)(t:Nat):an l=an (l.take t)+an (l.drop t):=by rw[<-AU,mI]
theorem zo(leaf:Bool)(l:List E):iZ (ig leaf l)=223-(an l:Int):=by
 unfold iZ ig an;have h:∀l:List E,((l.map pT).map λr=>4+r.length).sum=(l.map λe=>e.key.size+e.val.size+7).sum:=by
  intro l
  induction l with
  |nil=>rfl
  |cons e l ih=>simp only[eh,kC,ih,pU];omega
 have hk:(Cg leaf).length=1:=by unfold Cg;split<;>rfl
 rw[eh,kC,h,hk];omega
theorem Ck(l:List E)(hc:∀e∈l,cost e<=79)(hn:2<=l.length):∃i,1<=i/\i<l.length/\jY l i<=79:=by
 have step:∀k,k+1<l.length->(∃i,1<=i/\i<l.length/\jY l i<=79)\/2*an (l.take (k+1))<an l:=by
  intro k
  induction k with
  |zero=>
   intro hk
   by_cases h:2*an (l.take 1)<an l
   .exact .inr h
   .refine .inl ⟨1,by omega,by omega,?_⟩;have he:=aT (show 0<l.length by omega);have hs:=kS l 0 _ he;have hx:=hc _ (j9 (show 0<l.length by omega));unfold cost at hx;have ht:=pS l 1;rw[iM]at hs;have h0:an ([]:List E)=0:=rfl;rw[bh]at hs;unfold jY;omega
  |succ k ih=>
   intro hk
   rcases ih (by omega)with h|h
   .exact .inl h
   .by_cases h2:2*an (l.take (k+1+1))<an l
    .exact .inr h2
    .have he:=aT (show k+1<l.length by omega);have hs:=kS l (k+1) _ he;have hx:=hc _ (j9 (show k+1<l.length by omega));unfold cost at hx
     by_cases h3:2*an (l.take (k+1+1))<=an l+79
     .refine .inl ⟨k+1+1,by omega,by omega,?_⟩;unfold jY;omega
     .refine .inl ⟨k+1,by omega,by omega,?_⟩;unfold jY;omega
 rcases step (l.length-2) (by omega)with h|h
 .exact h
 .refine⟨l.length-1,by omega,by omega,?_⟩;rw[show l.length-2+1=l.length-1 by omega]at h;have he:=aT (show l.length-1<l.length by omega);have hs:=kS l (l.length-1) _ he;have hx:=hc _ (j9 (show l.length-1<l.length by omega));unfold cost at hx;rw[show l.length-1+1=l.length by omega,gY]at hs;unfold jY;omega
theorem Oh(hc:∀e∈l,cost e<=79)(hn:2<=l.length)(hb:an l<=302)(h:vf l l.length t):an (l.take t)<=223/\an (l.drop t)<=223:=by
 obtain⟨i,h1,h2,h3⟩:=Ck l hc hn;have h4:=h.2.2.1 i h1 h2;have h5:=wu l t;unfold jY at h3 h4;omega
end
attribute [local go_sem ↓] Go.wp_at_zero Go.wp_at_succ
theorem J2(a b:ByteArray)(w:World):
  Calls prog 161 #[.string a,.string b] w λe w'=>e=.returned (.int .i64 (Lib.compareBytes a.data.toList b.data.toList))/\Below w.heap.size w w':=by
 go_enter func161,ntmps161;go_wp2_with fail;rw[run_callFunc_extern func205 (by kernel_rfl) (by kernel_rfl) (by kernel_rfl) (e:=Extern.BytealgCompare.compare) (by kernel_rfl),Lib.run_compareString];simp only[Result.andThen];rw[Oper.upon_value]
 go_wp2
 go_ret;exact⟨rfl,Below.refl _ _⟩
theorem Gv(a b:ByteArray)(w:World):
  Calls prog 115 #[.string a,.string b] w λe w'=>e=.returned (.int .i64 (Lib.compareBytes a.data.toList b.data.toList))/\Below w.heap.size w w':=by
 have K:=xh (J2 a b w);go_enter func115,ntmps115;go_wp2_with fail;refine K.o.mono ?_;rintro e w1 ⟨rfl,hb⟩;have HB:=xh hb;go_wp2_with fail;go_ret;exact⟨rfl,HB.o⟩
theorem qM(e:E)(k:ByteArray)(w:World):
  Calls prog 114 #[e.agg,.string k] w λr w'=>r=.returned (.int .i64 (Lib.compareBytes e.key.data.toList k.data.toList))/\Below w.heap.size w w':=by
 have O0:=xh ((Below.refl w.heap.size w).alloc (aj _) (.cells #[.string e.key,.string e.val,.int .i64 e.aU] 111));have B0:=aE.new w 111 #[.string e.key,.string e.val,.int .i64 e.aU];have c0:=B0.ab (i:=0) rfl;have K:=xh (λw=>Gv e.key k w);clear B0;unfold E.agg;go_enter func114,ntmps114;go_wp2_with fail;refine(K.o _).mono ?_;rintro e w1 ⟨rfl,hb⟩;have HB:=xh (au O0.o hb);clear hb;go_wp2_with fail;go_ret;exact⟨rfl,HB.o⟩
def rA(e:E)(k:ByteArray):Int:=Lib.compareBytes e.key.data.toList k.data.toList
def qW(l:List E)(key:ByteArray)(k:Nat):Prop:=k<=l.length/\(∀e,0<k->l[k-1]?=some e->rA e key<0)/\(∀e,l[k]?=some e->0<=rA e key)
def Cl(l:List E)(key:ByteArray)(k:Nat):Prop:= ∃e,l[k]?=some e/\rA e key=0
theorem Gw{w:World}(A:Option Addr)(n c:Nat)(l:List E)(key:ByteArray)(h:oJ w A n l)(hn:n<=1000000):
  Calls prog 113 #[.slice A n c,.string key,.func (Fn.func 114) #[] #[]] w λr w'=>(∃k b,r=.returned (.tuple #[.int .i64 (k:Nat),.bool b])/\qW l key k/\(b=true↔Cl l key k))/\Below w.heap.size w w':=by
 have hl:=xh h.1;have H0:=xh h;clear h;go_enter func113,ntmps113;go_wp2_with fail
 go_loopw [9,10] (λiv jv wr=> ∃i j:Nat,i<=j/\j<=n/\iv=.int .i64 i/\jv=.int .i64 j/\Hid (∀e,0<i->l[i-1]?=some e->rA e key<0)/\Hid (∀e,l[j]?=some e->0<=rA e key)/\Below w.heap.size w wr) (λiv jv _=>(intOf jv).toNat-(intOf iv).toNat)
 case atStart=>exact⟨0,n,bm _,aj _,rfl,rfl,xh (λe h=>absurd h (qC _)),xh (λe h=>by have:=(aX.1 h).1;have:=hl.o;omega),Below.refl _ _⟩
 case round=>
  obtain⟨i,j,hij,hj,rfl,rfl,LO,HI,hb⟩:=hrel
  by_cases h:i<j
  .obtain⟨m,hm⟩:∃m,(i+j) / 2=m:=⟨_,rfl⟩;have hmj:m<j:=by omega
   have hmi:i<=m:=by omega
   have hmI:((i:Int)+(j:Int)) / 2=(m:Int):=by omega
   obtain⟨ad,e,rfl,he,AT⟩:=(H0.o.below hb).at m (by omega);have HB:=xh hb;have a0:=AT.c0;have a1:=AT.c1;have a2:=AT.c2;have e1:IntKind.i64.wrap ((i:Int)+(j:Int))=(i:Int)+(j:Int):=IntWalk.i64_in _ (by omega);have e2:IntKind.u64.wrap ((i:Int)+(j:Int))=(i:Int)+(j:Int):=IntWalk.u64_in _ (by omega);have e3:IntKind.i64.wrap (m:Int)=(m:Int):=IntWalk.i64_in _ (by omega);have hmn:m<n:=by omega
   have KF:=xh (qM e key wr);have HE:=xh he;unfold E.agg at KF;clear AT hb he;obtain⟨q,hq⟩:∃q,Lib.compareBytes e.key.data.toList key.data.toList=q:=⟨_,rfl⟩;have HQ:=xh (show rA e key=q from hq);rw[hq]at KF;clear hq;go_wp2_with fail;refine KF.o.mono ?_;rintro r w1 ⟨rfl,aJ⟩;have FF:=xh (au HB.o aJ);clear aJ
   by_cases hq:q<0
   .have HLO:=xh (show ∀x,0<m+1->l[m+1-1]?=some x->rA x key<0 from λx _ hx=>by
     rw[td,HE.o]at hx;injection hx with hx
     rw[<-hx,HQ.o];exact hq)
    go_wp2_with fail;go_roundw
    case rel=>exact⟨m+1,j,by omega,hj,by go_num,rfl,HLO,HI,FF.o⟩
    case measure=>simp[intOf];omega
   .have HHI:=xh (show ∀x,l[m]?=some x->0<=rA x key from λx hx=>by
     rw[HE.o]at hx;injection hx with hx
     rw[<-hx,HQ.o];omega)
    go_wp2_with fail;go_roundw
    case rel=>exact⟨i,m,hmi,by omega,rfl,rfl,LO,HHI,FF.o⟩
    case measure=>simp[intOf];omega
  .obtain rfl:i=j:=by omega
   have HB:=xh hb;have rG:=xh (show qW l key i from⟨by have:=hl.o;omega,LO.o,HI.o⟩)
   by_cases sN:i<n
   .obtain⟨ad,e,rfl,he,AT⟩:=(H0.o.below hb).at i sN;have a0:=AT.c0;have a1:=AT.c1;have a2:=AT.c2;have KF:=xh (qM e key wr);have HE:=xh he;unfold E.agg at KF;clear AT hb he;obtain⟨q,hq⟩:∃q,Lib.compareBytes e.key.data.toList key.data.toList=q:=⟨_,rfl⟩;have HQ:=xh (show rA e key=q from hq);rw[hq]at KF;clear hq;have HI2:(i:Int)<(n:Int):=by omega
    go_wp2_with fail;refine KF.o.mono ?_;rintro r w1 ⟨rfl,aJ⟩;have FF:=xh (au HB.o aJ);clear aJ
    by_cases hq:q=0
    .subst hq;go_wp2_with fail;go_ret2;exact⟨⟨i,true,rfl,rG.o,by simp only[true_iff];exact⟨e,HE.o,HQ.o⟩⟩,FF.o⟩
    .go_wp2_with fail;go_ret2;refine⟨⟨i,false,by simp[hq],rG.o,?_⟩,FF.o⟩;simp only[lZ,false_iff];rintro⟨x,hx,h0⟩;rw[HE.o]at hx;injection hx with hx
     subst hx;exact hq (HQ.o.symm.trans h0)
   .have hin2:¬(i:Int)<(n:Int):=by omega
    clear hb;go_wp2_with fail;go_ret2;refine⟨⟨i,.inl ⟨rfl,rG.o,?_⟩⟩,HB.o⟩;rintro⟨x,hx,h0⟩;have:=(aX.1 hx).1;have:=hl.o;omega
variable{w:World}
theorem iB(leaf:Bool)(A:Option Addr)(n c:Nat)(l:List E)(key:ByteArray)(h:oJ w A n l)(hn:n<=1000000):
  Calls prog 64 #[bt leaf A n c,.string key] w λr w'=>(∃k b,r=.returned (.tuple #[.int .i64 (k:Nat),.bool b])/\qW l key k/\(b=true↔Cl l key k))/\Below w.heap.size w w':=by
 have O0:=(Below.refl w.heap.size w).alloc (aj _) (.cells #[.bool leaf,.slice A n c] 118);have B0:=aE.new w 118 #[.bool leaf,.slice A n c];have c1:(w.alloc (.cells #[.bool leaf,.slice A n c] 118)).cell? ⟨w.heap.size,1,none⟩=some (.slice A n c):=B0.ab (i:=1) rfl;have K:=xh (Gw (w:=w.alloc (.cells #[.bool leaf,.slice A n c] 118)) A n c l key (h.below O0) hn);have O0:=xh O0;clear h B0;unfold bt;go_enter func64,ntmps64;go_wp2_with fail
 refine K.o.mono ?_;rintro r w1 ⟨⟨k,b,rfl,hp,hh⟩,aJ⟩;have HP:=xh hp;have HH:=xh hh;have O1:=xh (au O0.o aJ);clear hp hh aJ;go_wp2_with fail;go_ret2;exact⟨⟨k,b,rfl,HP.o,HH.o⟩,O1.o⟩
theorem Oi(leaf:Bool)(A:Option Addr)(n c:Nat)(l:List E)(key:ByteArray)(h:oJ w A n l)(hn:n<=1000000):
  Calls prog 110 #[bt leaf A n c,.string key] w λr w'=>(∃m:Nat,r=.returned (.int .i64 (m:Nat))/\∃k,qW l key k/\((Cl l key k/\m=k)\/(¬Cl l key k/\m=k-1)))/\Below w.heap.size w w':=by
 have O0:=(Below.refl w.heap.size w).alloc (aj _) (.cells #[.bool leaf,.slice A n c] 118);have B0:=aE.new w 118 #[.bool leaf,.slice A n c];have c0:(w.alloc (.cells #[.bool leaf,.slice A n c] 118)).cell? ⟨w.heap.size,0,none⟩=some (.bool leaf):=B0.ab (i:=0) rfl;have c1:(w.alloc (.cells #[.bool leaf,.slice A n c] 118)).cell? ⟨w.heap.size,1,none⟩=some (.slice A n c):=B0.ab (i:=1) rfl
 have K:=xh (iB (w:=w.alloc (.cells #[.bool leaf,.slice A n c] 118)) leaf A n c l key (h.below O0) hn);have O0:=xh O0;have HL:=xh h.1;clear h B0;unfold bt at *;go_enter func110,ntmps110;go_wp2_with fail;refine K.o.mono ?_;rintro r w1 ⟨⟨k,b,rfl,hp,hh⟩,aJ⟩;have HP:=xh hp;have HH:=xh hh;have O1:=xh (au O0.o aJ);have hk:k<=1000000:=by have:=hp.1;have:=HL.o;omega
 clear hp hh aJ
 cases b
 .rcases(show k=0\/∃j,k=j+1 from by cases k;exact .inl rfl;exact .inr ⟨_,rfl⟩)with rfl|⟨j,rfl⟩
  .go_wp2_with fail;go_ret;exact⟨⟨0,rfl,0,HP.o,.inr ⟨λhx=>absurd (HH.o.2 hx) (by decide),rfl⟩⟩,O1.o⟩
  .have e1:IntKind.i64.wrap ((j:Int)+1-1)=(j:Int):=by rw[Int.add_sub_cancel];exact IntWalk.i64_in _ (by omega)
   have e2:IntKind.i64.wrap (j:Int)=(j:Int):=IntWalk.i64_in _ (by omega);have e3:max (j:Int) 0=(j:Int):=by omega
   have e4:¬(j:Int)<0:=by omega
   go_wp2_with fail;go_ret;refine⟨⟨j,?_,j+1,HP.o,.inr ⟨λhx=>absurd (HH.o.2 hx) (by decide),rfl⟩⟩,O1.o⟩
   first|rfl|simp[e3]
 .have e3:max (k:Int) 0=(k:Int):=by omega
  have e4:¬(k:Int)<0:=by omega
  go_wp2_with fail;go_ret;refine⟨⟨k,?_,k,HP.o,.inl ⟨HH.o.1 (by trivial),rfl⟩⟩,O1.o⟩
  first|rfl|simp[e3]
attribute [local go_sem ↓] bq
end Nd
namespace Nd
open Go.RowKit Sl Go.Deep Go.ChangeShapes Go.WideShapes
instance:Inhabited E:=⟨⟨.empty,.empty,0⟩⟩
open Go.RowKit Sl
variable{l:List E}{leaf:Bool}
abbrev cb:=Lib.compareBytes
theorem lC(a:UInt8)(x:List UInt8)(b:UInt8)(y:List UInt8):cb (a::x) (b::y)=if a<b then -1 else if b<a then 1 else cb x y:=rfl
theorem LQ{a b:UInt8}(h1:¬a<b)(h2:¬b<a):a=b:=by
 rw[th]at h1 h2;exact UInt8.toNat_inj.1 (by omega)
theorem SJ:∀(x y:List UInt8),cb x y=0↔x=y
 |[],[]=>by simp[cb,Lib.compareBytes]
 |[],_::_=>by simp[cb,Lib.compareBytes]
 |_::_,[]=>by simp[cb,Lib.compareBytes]
 |a::x,b::y=>by
  rw[lC]
  by_cases h1:a<b
  .rw[if_pos h1];have:a≠b:=λe=>by subst e;exact absurd h1 (by rw[th];omega)
   simp[this]
  .rw[if_neg h1]
   by_cases h2:b<a
   .rw[if_pos h2];have:a≠b:=λe=>by subst e;exact h1 h2
    simp[this]
   .rw[if_neg h2,SJ x y,LQ h1 h2];simp
theorem Ex:∀(x y:List UInt8),cb y x= -cb x y
 |[],[]=>rfl
 |[],_::_=>rfl
 |_::_,[]=>rfl
 |a::x,b::y=>by
  rw[lC,lC]
  by_cases h1:a<b
  .have h2:¬b<a:=by rw[th]at *;omega
   rw[if_pos h1,if_neg h2,if_pos h1];rfl
  .rw[if_neg h1,if_neg h1]
   by_cases h2:b<a
   .rw[if_pos h2,if_pos h2]
   .rw[if_neg h2,if_neg h2];exact Ex x y
theorem pV:∀(x y z:List UInt8),cb x y<0->cb y z<0->cb x z<0
 |[],[],_=>λh _=>absurd h (by decide)
 |[],_::_,[]=>λ_ h=>absurd h (by simp[cb,Lib.compareBytes])
 |[],_::_,_::_=>λ_ _=>by simp[cb,Lib.compareBytes]
 |_::_,[],_=>λh _=>absurd h (by simp[cb,Lib.compareBytes])
 |_::_,_::_,[]=>λ_ h=>absurd h (by simp[cb,Lib.compareBytes])
 |a::x,b::y,c::z=>by
  rw[lC,lC,lC];intro h1 h2
  by_cases p1:a<b
  .by_cases p2:b<c
   .rw[if_pos (by rw[th]at *;omega)];decide
   .rw[if_neg p2]at h2
    by_cases p3:c<b
    .rw[if_pos p3]at h2;exact absurd h2 (by decide)
    .obtain rfl:=LQ p2 p3;rw[if_pos p1];decide
  .rw[if_neg p1]at h1
   by_cases p4:b<a
   .rw[if_pos p4]at h1;exact absurd h1 (by decide)
   .rw[if_neg p4]at h1;obtain rfl:=LQ p1 p4
    by_cases p2:a<c
    .rw[if_pos p2];decide
    .rw[if_neg p2]at h2 ⊢
     by_cases p3:c<a
     .rw[if_pos p3]at h2;exact absurd h2 (by decide)
     .rw[if_neg p3]at h2 ⊢;exact pV x y z h1 h2
theorem LR:∀(x y:List UInt8),Op.bytesLess x y=decide (cb x y<0)
 |[],[]=>by simp[Op.bytesLess,cb,Lib.compareBytes]
 |[],_::_=>by simp[Op.bytesLess,cb,Lib.compareBytes]
 |_::_,[]=>by simp[Op.bytesLess,cb,Lib.compareBytes]
 |a::x,b::y=>by
  rw[lC,Op.bytesLess]
  by_cases h1:a<b
  .simp[h1]
  .by_cases h2:b<a
   .have h3:¬a=b:=λe=>by subst e;exact h1 h2
    simp[h1,h2,h3]
   .have h3:=LQ h1 h2;subst h3;simp[h1,LR x y]
theorem SO(a b:ByteArray):leB a b=decide (cb a.data.toList b.data.toList<=0):=by
 unfold leB;rw[bu,bu,LR];have h:=SJ a.data.toList b.data.toList
 by_cases h1:cb a.data.toList b.data.toList<0
 .rw[decide_eq_true h1,decide_eq_true (by omega)];rfl
 .rw[decide_eq_false h1]
  by_cases h2:a.data.toList=b.data.toList
  .rw[decide_eq_true (by rw[h.2 h2];omega),h2];simp
  .rw[decide_eq_false (by
    have:cb a.data.toList b.data.toList≠0:=λe=>h2 (h.1 e);omega)]
   simpa using h2
theorem Gx(hm:dD l leaf){i:Nat}{p e:E}(hp:l[i]?=some p)(he:l[i+1]?=some e):cb p.key.data.toList e.key.data.toList<0:=by
 have h:=(hm (i+1) (aX.1 he).1 e he).2 (by omega) p (by rw[td];exact hp);rw[SO,decide_eq_false_iff_not]at h;have:=Ex p.key.data.toList e.key.data.toList;omega
theorem J3(hm:dD l leaf)(i d:Nat):∀{p e:E},l[i]?=some p->l[i+1+d]?=some e->cb p.key.data.toList e.key.data.toList<0:=by
 induction d with
 |zero=>intro p e hp he;exact Gx hm hp he
 |succ d ih=>
  intro p e hp he;have dV:=(aX.1 he).1;have hq:=aT (show i+1+d<l.length by omega);exact pV _ _ _ (ih hp hq) (Gx hm hq (by rw[show i+1+d+1=i+1+(d+1) by omega];exact he))
theorem J4{key:ByteArray}{p:Nat}(hm:dD l leaf)(h:qW l key p)(j:Nat)(e:E)(he:l[j]?=some e):rA e key<0↔j<p:=by
 constructor
 .intro hc
  rcases eT j p with h1|h1
  .exact h1
  .exfalso
   rcases Nat.lt_or_eq_of_le h1 with h2|rfl
   .have hq:=aT (show p<l.length by have:=(aX.1 he).1;omega);have h3:=h.2.2 _ hq;have h4:=J3 hm p (j-p-1) hq (by rw[show p+1+(j-p-1)=j by omega];exact he);have h5:=pV _ _ _ h4 hc;unfold rA at h3;exact absurd h5 (by unfold cb;omega)
   .have:=h.2.2 _ he;omega
 .intro hj;have hp:=h.1;have hq:=aT (show p-1<l.length by omega);have h3:=h.2.1 _ (by omega) hq
  rcases eT j (p-1)with h1|h1
  .have h4:=J3 hm j (p-1-j-1) he (by rw[show j+1+(p-1-j-1)=p-1 by omega];exact hq);exact pV _ _ _ h4 h3
  .obtain rfl:j=p-1:=by omega
   rw[he]at hq;injection hq with hq
   rw[hq];exact h3
variable{leaf:Bool}{l:List E}{key:ByteArray}{k:Nat}{w:World}
def mayB(l:List E)(leaf:Bool):Bool:=(List.range l.length).all λi=>match l[i]? with
 |none=>true
 |some e=>decide (dg e leaf) && (decide (i=0) || match l[i-1]? with
  |none=>true
  |some p=> !leB e.key p.key)
theorem kV(l:List E)(leaf:Bool):mayB l leaf=true↔dD l leaf:=by
 unfold mayB dD okAt;rw[nV];refine⟨λh i hi e he=>?_,λh i hi=>?_⟩
 .have:=h i (kA.2 hi);rw[he]at this;simp only[gH,decide_eq_true_eq,nU]at this;refine⟨this.1,λh0 p hp=>?_⟩;have h2:=this.2.resolve_left (by omega);rw[hp]at h2;simpa using h2
 .have hi:=kA.1 hi;have he:=aT hi;obtain⟨a,b⟩:=h i hi _ he;rw[he];simp only[gH,decide_eq_true_eq,nU];refine⟨a,?_⟩
  by_cases h0:i=0
  .exact .inl h0
  .right;have hp:=aT (show i-1<l.length by omega);rw[hp];simpa using b (by omega) _ hp
def SU(rs:List (List UInt8)):Bool:=(decide (rs.head?=some [1]) || decide (rs.head?=some [2])) && (rs.tail.all (λr=>decide (3+mf ⟨r.toArray⟩<=r.length)) && mayB (kT rs) (mR rs))
theorem qX(rs:List (List UInt8)):SU rs=true↔iD rs:=by
 unfold SU iD ie;simp only[gH,nU,decide_eq_true_eq,nV,kV];refine and_congr_right λ_=>and_congr_left λ_=>?_;have:∀r:List UInt8,(⟨r.toArray⟩:ByteArray).size=r.length:=λr=>by show r.toArray.size=_;simp
 simp only[this]
def aV(b:List UInt8):Bool×List E×Int:=
 if bX b≠0 then(false,[],bX b)else if SU (cI b)=true then(mR (cI b),kT (cI b),0)else(false,[],14)
def aZ(leaf:Bool)(l:List E):List UInt8×Int:=
 if mayB l leaf=true then(if 0<=iZ (ig leaf l)then(ofL (ig leaf l),0)else([],11))else([],2)
theorem zp(l:List (List UInt8))(h:0<=iZ l):∀k,k<=l.length->Sound (Gq l k)/\cI (Gq l k)=l.take k
 |0,_=>⟨pP.1,by rw[iM];exact pP.2.1⟩
 |k+1,hk=>by
  obtain⟨s,r⟩:=zp l h k (by omega);have e:l.getD k []=l[k]:=by rw[jj,aT (by omega)];rfl
  have h1:=y8 l k (by omega);have h2:=y9 l (k+1);obtain⟨_,a,b⟩:=LM s k l[k] (by rw[r];omega) (by rw[r,bK];omega);unfold Gq;rw[e];refine⟨a,?_⟩;rw[b,r,jO (by omega),bY (by rw[bK];omega),j8 (by rw[bK];omega)]
theorem vh(l:List (List UInt8))(h:0<=iZ l):Sound (ofL l)/\cI (ofL l)=l:=by
 have:=zp l h l.length (aj _);rw[gY]at this;exact this
theorem wv(leaf:Bool)(l:List E):(aZ leaf l).1.length<=232:=by
 unfold aZ
 split
 .split
  .rename_i h;exact Nat.le_of_eq (vh _ h).1.len
  .exact bm _
 .exact bm _
theorem Gy(b:List UInt8):(aV b).2.1.length<=57:=by
 unfold aV
 split
 .exact bm _
 .rename_i h
  split
  .have hs:Sound b:=(eu b).1 (by simpa using h);have h1:=hs.head;have h2:=hs.heap;show(kT (cI b)).length<=57;unfold kT;rw[fM,List.length_tail,cE];omega
  .exact bm _
theorem wy{b:List UInt8}(h:(aV b).2.2=0):dD (aV b).2.1 (aV b).1:=by
 unfold aV at h ⊢
 split at h
 .rename_i h2;exact absurd h h2
 .rename_i h2;rw[if_neg h2]
  split at h
  .rename_i h3;rw[if_pos h3];exact((qX _).1 h3).2.2
  .exact absurd h (by decide)
theorem Gz(h:(aZ leaf l).2=0):aV (aZ leaf l).1=(leaf,l,0):=by
 unfold aZ at h ⊢
 split at h
 .rename_i hm;rw[if_pos hm]
  split at h
  .rename_i hr;rw[if_pos hr];obtain⟨s,r⟩:=vh _ hr;have Ig:=(kV _ _).1 hm;unfold aV;rw[if_neg (by rw[(eu _).2 s];simp),r,if_pos ((qX _).2 (Gu Ig)),zm,zk Ig]
  .exact absurd h (by decide)
 .exact absurd h (by decide)
def bf(l:List E)(key:ByteArray):Nat:=l.findIdx λe=>decide (0<=rA e key)
def cd(l:List E)(key:ByteArray):Bool:=match l[bf l key]? with
 |none=>false
 |some e=>decide (rA e key=0)
def bH(l:List E)(key:ByteArray):Nat:=if cd l key=true then bf l key else bf l key-1
def bJ(l:List E):Nat:=((List.range l.length).find? λt=>decide (1<=t) && (List.range l.length).all λj=>decide (j=0) || decide (jY l t<=jY l j)).getD 1
theorem LS{t:Nat}(h:vf l l.length t):bJ l=t:=by
 obtain⟨h1,h2,h3,h4⟩:=h;unfold bJ;have:(List.range l.length).find? (λt=>decide (1<=t) && (List.range l.length).all λj=>decide (j=0) || decide (jY l t<=jY l j))=some t:=by
  rw[List.find?_eq_some_iff_append];refine⟨?_,List.range t,(List.range (l.length-t-1)).map (· +(t+1)),?_,λa ha=>?_⟩
  .simp only[gH,decide_eq_true_eq,nV,nU,kA];exact⟨h1,λj hj=>by
    by_cases h0:j=0
    .exact .inl h0
    .exact .inr (h3 j (by omega) hj)⟩
  .apply xZ
   .simp;omega
   .intro i hi1 Sf;rw[Dd,List.getElem_append];simp only[List.length_range]
    split
    .rw[Dd]
    .rename_i hi;rw[List.getElem_cons]
     split
     .omega
     .simp;omega
  .have ha:=kA.1 ha
   by_cases h0:a=0
   .subst h0;simp
   .have:=h4 a (by omega) ha;simp only[Bool.not_eq_true',Bool.and_eq_false_iff];right;rw[Lh];intro hc;rw[nV]at hc;have:=hc t (kA.2 h2);simp only[nU,decide_eq_true_eq]at this;omega
 rw[this];rfl
theorem zq(hm:dD l leaf)(h:qW l key k):bf l key=k:=by
 unfold bf;obtain⟨h1,h2,h3⟩:=h;have hp:=J4 hm ⟨h1,h2,h3⟩
 rcases eT k l.length with hk|hk
 .have hkk:=aT hk;rw[List.findIdx_eq hk];refine⟨by simpa using h3 _ hkk,λj hj=>?_⟩;have:=(hp j _ (aT (by omega))).2 hj;simpa using this
 .obtain rfl:k=l.length:=by omega
  rw[List.findIdx_eq_length];intro e he;obtain⟨j,hj,rfl⟩:=pB he;have:=(hp j _ (aT hj)).2 hj;simpa using this
theorem vi(h:bf l key=k):cd l key=true↔Cl l key k:=by
 unfold cd Cl;rw[h]
 cases l[k]? with
 |none=>simp
 |some e=>simp
section
open Go.RowKit
theorem SW(s:ByteArray)(w:World)(hs:s.size<=1000000):
  Calls prog 122 #[.string s] w λe w'=> ∃A c,e=.returned (.tuple #[bt (aV s.data.toList).1 A (aV s.data.toList).2.1.length c,.int .i64 (aV s.data.toList).2.2])/\
   aK w' 111 3 (.slice A (aV s.data.toList).2.1.length c) (aV s.data.toList).2.1.length (aH (aV s.data.toList).2.1)/\(∀g∈ah (.slice A (aV s.data.toList).2.1.length c),w.heap.size<=g)/\Below w.heap.size w w':=by
 refine(got_any s w hs).mono ?_;unfold aV;rintro e w' (⟨h1,rfl,hb⟩|⟨h1,h2,hb⟩)
 .rw[if_pos h1];exact⟨none,0,rfl,aK.nil _ _ _,by simp[ah],hb⟩
 .rw[if_neg (by simpa using h1)]
  rcases h2 with⟨h2,rfl⟩|⟨h2,A,n,c,rfl,S,f⟩
  .rw[if_neg (λh=>h2 ((qX _).1 h))];exact⟨none,0,rfl,aK.nil _ _ _,by simp[ah],hb⟩
  .rw[if_pos ((qX _).2 h2)];have hn:=S.1;rw[ax]at hn;obtain rfl:(kT (cI s.data.toList)).length=n:=by omega
   exact⟨A,c,rfl,S,f.o,hb⟩
theorem zu(leaf:Bool)(A:Option Addr)(n c:Nat)(l:List E)(h:oJ w A n l)(hn:n<=1000):
  Calls prog 68 #[bt leaf A n c] w λe w'=>e=.returned (.tuple #[.string ⟨(aZ leaf l).1.toArray⟩,.int .i64 (aZ leaf l).2])/\Below w.heap.size w w':=by
 unfold aZ
 by_cases hm:dD l leaf
 .rw[if_pos ((kV _ _).2 hm)];refine(put_yes leaf A n c l h hn hm).mono ?_;rintro e w' ⟨h1|h1,hb⟩
  .obtain⟨h0,b,rfl,_,_,he⟩:=h1;rw[if_pos h0];refine⟨?_,hb⟩;rw[show(⟨(ofL (ig leaf l)).toArray⟩:ByteArray)=b by rw[<-he]]
  .obtain⟨h0,rfl⟩:=h1;rw[if_neg (by omega)];exact⟨rfl,hb⟩
 .rw[if_neg (λh=>hm ((kV _ _).1 h))];exact put_no leaf A n c l h (by omega) hm
theorem vj(leaf:Bool)(A:Option Addr)(n c:Nat)(l:List E)(key:ByteArray)(h:oJ w A n l)(hn:n<=1000000)(hm:dD l leaf):
  Calls prog 64 #[bt leaf A n c,.string key] w λr w'=>r=.returned (.tuple #[.int .i64 (bf l key:Nat),.bool (cd l key)])/\Below w.heap.size w w':=by
 refine(iB leaf A n c l key h hn).mono ?_;rintro e w' ⟨⟨k,b,rfl,h1,h2⟩,hb⟩;have hk:=zq hm h1;refine⟨?_,hb⟩;rw[hk];have:cd l key=b:=by
  rw[Fh,vi hk,h2]
 rw[this]
theorem zv(leaf:Bool)(A:Option Addr)(n c:Nat)(l:List E)(key:ByteArray)(h:oJ w A n l)(hn:n<=1000000)(hm:dD l leaf):
  Calls prog 110 #[bt leaf A n c,.string key] w λr w'=>r=.returned (.int .i64 (bH l key:Nat))/\Below w.heap.size w w':=by
 refine(Oi leaf A n c l key h hn).mono ?_;rintro e w' ⟨⟨m,rfl,k,h1,h2⟩,hb⟩;have hk:=zq hm h1;refine⟨?_,hb⟩;unfold bH;rw[hk]
 rcases h2 with⟨h2,rfl⟩|⟨h2,rfl⟩
 .rw[if_pos ((vi hk).2 h2)]
 .rw[if_neg (λh=>h2 ((vi hk).1 h))]
end
end Nd
end Go.Proofs.YtmonobkginiajaaGreat
