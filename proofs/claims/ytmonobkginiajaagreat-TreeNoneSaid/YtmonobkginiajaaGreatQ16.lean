/- packed. -/
import Derived.Test.YtmonobkginiajaaGreatQ15
import Derived.Test.YtmonobkginiajaaGreatQ1
import Derived.Deep.QuietTactic
import Derived.BigQuiet
import Derived.IntWalk
set_option linter.all false
set_option maxRecDepth 100000
set_option maxHeartbeats 8000000
namespace Go.Proofs.YtmonobkginiajaaGreat.Sh
open Go.RowKit Pk Dk Pg
attribute [local go_sem ↓] Go.wp_at_zero Go.wp_at_succ
theorem Ld {w:World} {I:Ix} {F:List Nat} {q:QS} {n K:Nat} (h:PQ w I F q n K) (hK:K≤999999999900) (p:Int):
  Calls Tryz.prog 111 #[pp I.pb,.int .i64 p] w fun e w'=>e= .returned (.tuple #[.string ⟨(q.dC p).2.2.1.toArray⟩,.int .i64 (q.dC p).2.2.2])∧PQ w' I F (q.dC p).1 n (K+5)∧ag F w w':=by
 have KW:=xh (wU h hK p);generalize q.dC p=R at *;clear h;unfold pp at *;go_enter Tryz.func111,Tryz.ntmps111;go_wp2_with fail;refine KW.out.mono ?_;rintro e w1 ⟨A,m,c,rfl,S1,A1,o1,f1⟩;have S1:=xh S1;have A1:=xh A1;have o1:=xh o1;go_wp2_with fail;go_ret2;exact ⟨by first | rfl | simp,A1.out,o1.out⟩
def QS.pB (q:QS):List Int→QS×Int
 | []=>(q,0)
 | p::l=>if (q.aE p).2≠0 then ((q.aE p).1,(q.aE p).2) else (q.aE p).1.pB l
def QS.l5 (q:QS) (p:Int):QS×Int:=if (q.dC p).2.2.2≠0 then ((q.dC p).1,(q.dC p).2.2.2) else (q.dC p).1.pB (q.dC p).2.1
theorem wV: ∀(m:Nat) (q:QS) (p:Int) (l:List Int) (b:List UInt8),(q.lC m p l b).2.1.length≤l.length+m
 | 0,_,_,_,_=>by simp [QS.lC]
 | m+1,q,p,l,b=>by
  unfold QS.lC
  split
  ·simp
  ·split
   ·simp
   ·split
    ·simp
    ·split
     ·simp<;>omega
     ·have:=wV m (q.dM p).1 (q.dM p).2.1 (l++[p]) (b++(q.dM p).2.2.1);simp only [List.length_append,List.length_cons,List.length_nil] at this;omega
theorem GZ {w:World} {I:Ix} {F:List Nat} {q:QS} {n K:Nat} (h:PQ w I F q n K) (hK:K≤999999999900) (p:Int):
  Calls Tryz.prog 123 #[pp I.pb,.int .i64 p] w fun e w'=>e= .returned (.int .i64 (q.l5 p).2)∧PQ w' I F (q.l5 p).1 n (K+5)∧ag F w w':=by
 have KW:=xh (wU h hK p);have KD:=xh (fun (W:World) (b:QS) (hW:PQ W I F b n (K+5)) (y:Int)=>mO hW y);have nB:=xh h.lt;obtain ⟨R,hR⟩: ∃R,q.l5 p=R:=⟨_,rfl⟩;rw [hR];unfold QS.l5 at hR;have hlen:(q.dC p).2.1.length≤5:=wV 5 q p [] [];generalize q.dC p=Q at *;obtain ⟨q1,L,B,E⟩:=Q;dsimp only at *;clear h;unfold pp at *
 by_cases h0:E=0
 ·subst h0;rw [if_neg (by simp)] at hR;have HR:=xh hR;clear hR;go_enter Tryz.func123,Tryz.ntmps123;go_wp2_with fail;refine KW.out.mono ?_;rintro e w1 ⟨A,m,c,rfl,S1,A1,o1,f1⟩;obtain ⟨A',c',e⟩:=aq S1;injection e with e1 e2 e3
  subst e1 e2 e3;have HL:=xh S1;have H1:=xh (And.intro A1 (And.intro o1 f1));clear S1 A1 o1 f1;go_wp2_with fail
  go_loopw [23] (fun iv wr=> ∃(i:Nat) (b:QS),i≤L.length∧iv= .int .i64 i∧Hid (b.pB (L.drop i)=R)∧Hid (PQ wr I F b n (K+5)∧ag F w wr∧aG wr 3 1 (.slice A L.length c) L.length (cw L))) (fun iv _=>L.length-(intOf iv).toNat)
  case atStart=>exact ⟨0,q1,Nat.zero_le _,rfl,HR,xh ⟨H1.out.1,H1.out.2.1,HL.out⟩⟩
  case round=>
   obtain ⟨i,b,hi,rfl,HW,HA⟩:=hrel
   by_cases h:i<L.length
   ·obtain ⟨x,hx⟩: ∃x,L[i]?=some x:=⟨L[i],List.getElem?_eq_getElem h⟩;have Fc:L.drop i=x::L.drop (i+1):=by
     rw [List.drop_eq_getElem_cons h]
     congr 1
     rw [List.getElem?_eq_getElem h] at hx;injection hx
    obtain ⟨g,cp,rest,hv,BB,_⟩: ∃g cp rest,(Value.slice A L.length c)= .slice (some ⟨g,0,none⟩) L.length cp∧ax wr g 3 (cw L++rest).toArray∧True:=by
     rcases HA.out.2.2.2 with ⟨h1,h2⟩ | ⟨g,cap,rest,h1,h2,_⟩
     ·omega
     ·exact ⟨g,cap,rest,h1,h2,trivial⟩
    injection hv with e1 e2 e3
    subst e1 e3;have cx:wr.cell? ⟨g,i,none⟩=some (.int .i64 x):=BB.ab (by
     rw [List.getElem?_toArray,List.getElem?_append_left (by simpa using h)];simp [cw,hx])
    have rB:=HW.out;rw [Fc] at rB;unfold QS.pB at rB;have K2:=xh (KD.out wr b HA.out.1 x);have hiI:(i:Int)<(L.length:Int):=by omega
    have hl5:(L.length:Int)≤5:=by have:=hlen; omega
    have HFR:=xh (show ∀g'∈ah (.slice (some ⟨g,0,none⟩) L.length c),g'∉F from fun g' hg hF=>by have:=H1.out.2.2 g' hg; have:=nB.out g' hF; omega);generalize b.aE x=D at *;obtain ⟨D1,D2⟩:=D;dsimp only at *
    by_cases hd:D2=0
    ·subst hd;rw [if_neg (by simp)] at rB;have rB:=xh rB;clear BB hx Fc;go_wp2_with fail;refine K2.out.mono ?_;rintro e w2 ⟨rfl,A2,o2⟩;have H2:=xh (show PQ w2 I F D1 n (K+5)∧ag F w w2∧aG w2 3 1 (.slice (some ⟨g,0,none⟩) L.length c) L.length (cw L) from ⟨A2,HA.out.2.1.trans o2,HA.out.2.2.only o2 HFR.out⟩);clear A2 o2 cx;go_wp2_with fail;go_roundw
     case rel=>exact ⟨i+1,D1,by omega,by go_num,rB,H2⟩
     case measure=>simp [intOf]; omega
    ·rw [if_pos hd] at rB;subst rB;have hq:(D2 != 0)=true:=by rw [bne_iff_ne]; exact hd
     have jm:(D2==0)=false:=by rw [beq_eq_false_iff_ne]; exact hd
     clear BB hx Fc;go_wp2_with fail;refine K2.out.mono ?_;rintro e w2 ⟨rfl,A2,o2⟩;have H2:=xh (show PQ w2 I F D1 n (K+5)∧ag F w w2 from ⟨A2,HA.out.2.1.trans o2⟩);clear A2 o2 cx;go_wp2_with fail;go_ret;exact ⟨by first | rfl | simp,H2.out.1,H2.out.2⟩
   ·have rB:=HW.out;rw [List.drop_eq_nil_of_le (by omega)] at rB;unfold QS.pB at rB;subst rB;obtain rfl:i=L.length:=by omega
    go_wp2_with fail;go_ret;exact ⟨by first | rfl | simp,HA.out.1,HA.out.2.1⟩
 ·rw [if_pos h0] at hR;subst hR;have hq:(E != 0)=true:=by rw [bne_iff_ne]; exact h0
  have jm:(E==0)=false:=by rw [beq_eq_false_iff_ne]; exact h0
  go_enter Tryz.func123,Tryz.ntmps123;go_wp2_with fail;refine KW.out.mono ?_;rintro e w1 ⟨A,m,c,rfl,S1,A1,o1,f1⟩;have H1:=xh (And.intro A1 o1);clear S1 A1 o1 f1;go_wp2_with fail;go_ret;exact ⟨by first | rfl | simp,H1.out.1,H1.out.2⟩
attribute [local go_sem ↓] aX
def ij (v:List UInt8) (i:Nat) (next:Int):List UInt8:=lZ (next+1).toNat++lZ (cV v i).length++cV v i
def QS.j7 (q:QS):List Int→QS
 | []=>q
 | p::l=>(q.aE p).1.j7 l
theorem QS.pC (q:QS) (p:Int) (l:List Int):q.j7 (p::l)=(q.aE p).1.j7 l:=rfl
def QS.nW (v:List UInt8):Nat→QS→Int→List Int→QS×Int×Int
 | 0,q,next,_=>(q,next,0)
 | i+1,q,next,made=>
  if (q.bm (ij v i next)).2.2≠0 then ((q.bm (ij v i next)).1.j7 made,0,(q.bm (ij v i next)).2.2)
  else QS.nW v i (q.bm (ij v i next)).1 (q.bm (ij v i next)).2.1 (made++[(q.bm (ij v i next)).2.1])
def QS.l6 (q:QS) (v:List UInt8):QS×Int×Int:=if 1024<v.length then (q,0,4) else QS.nW v (fq v.length).toNat q (-1) []
theorem newF_bd (a:St) (p:List UInt8):0≤(a.bm p).2.1∧(a.bm p).2.1≤511:=by
 unfold St.bm
 split
 ·exact ⟨by show (0:Int)≤0; omega,by show (0:Int)≤511; omega⟩
 ·split
  ·exact ⟨by show (0:Int)≤0; omega,by show (0:Int)≤511; omega⟩
  ·exact ⟨by show (0:Int)≤(a.slot:Nat); omega,by show ((a.slot:Nat):Int)≤511; omega⟩
theorem Le (q:QS) (p:List UInt8):0≤(q.bm p).2.1∧(q.bm p).2.1≤511:=newF_bd q.a p
theorem Lf {w:World} {I:Ix} {F:List Nat} {q:QS} {n K:Nat} (h:PQ w I F q n K) (v:ByteArray) (hv:v.size≤1024) (hK:K≤999999999900):
  Calls Tryz.prog 124 #[pp I.pb,.string v] w fun e w'=>e= .returned (.tuple #[.int .i64 (q.l6 v.data.toList).2.1,.int .i64 (q.l6 v.data.toList).2.2])∧PT w w' I F (q.l6 v.data.toList).1 n (K+5):=by
 have hvl:v.data.toList.length=v.size:=by simp
 obtain ⟨R,hR⟩: ∃R,q.l6 v.data.toList=R:=⟨_,rfl⟩;rw [hR];unfold QS.l6 at hR;rw [if_neg (by omega),hvl] at hR;have hn1:1≤fq v.size∧fq v.size≤5:=by unfold fq; omega
 have I0:228*(fq v.size-1)≤v.size:=by unfold fq; omega
 have KN:=xh (wS (v.size:Nat) (by omega));obtain ⟨m,hm⟩:=Int.eq_ofNat_of_zero_le (show 0≤fq v.size by omega);rw [hm] at hn1 I0 KN hR;rw [show ((m:Nat):Int).toNat=m by omega] at hR;have HR:=xh hR;have O0:=xh (ae (Below.refl w.heap.size w) (.cells #[.string v] 9));have B0:=xh (ax.new w 9 #[.string v]);have q0:=B0.out.ab (i:=0) rfl;have HQ:=xh (h.below O0.out);have nB:=xh h.lt
 have KNEW:=xh (fun (W:World) (F':List Nat) (b:QS) (j:Nat) (hW:PQ W I F' b n j) (s:ByteArray) (hs:s.size≤232) (hj:j≤1000000000000)=>uc hW hj s hs);have KD:=xh (fun (W:World) (F':List Nat) (b:QS) (j:Nat) (hW:PQ W I F' b n j) (y:Int)=>mO hW y);have KP:=xh (fun (W:World) (hq:W.cell? ⟨w.heap.size,0,none⟩=some (.string v)) (i:Nat) (hi:228*i≤v.size)=>GW v hv hq i hi);have KT:=xh dG;have hm1:IntKind.i64.wrap ((m:Int)-1)=(m:Int)-1:=IntWalk.i64_in _ (by omega)
 clear h hR;unfold pp at *;go_enter Tryz.func124,Tryz.ntmps124;go_wp2_with fail;refine (KN.out _).mono ?_;rintro e w1 ⟨rfl,rfl⟩;go_wp2_with fail
 go_loopw [7,8,9] (fun mv nv iv wr=> ∃(j:Nat) (b:QS) (nx:Nat) (made:List Int) (F':List Nat),j≤m∧iv= .int .i64 ((j:Int)-1)∧nv= .int .i64 ((nx:Int)-1)∧nx≤512∧made.length=m-j∧aG wr 3 1 mv made.length (cw made)∧Hid (QS.nW v.data.toList j b ((nx:Int)-1) made=R)∧
   Hid (PQ wr I F' b n (K+(m-j))∧ag F w wr∧(∀g∈F',g∈F∨w.heap.size≤g)∧(∀g∈ah mv,w.heap.size≤g∧g∉F')∧ax wr w.heap.size 9 #[.string v]∧w.heap.size∉F')) (fun _ _ iv _=>(intOf iv+1).toNat)
 case atStart=>exact ⟨m,q,0,[],F,Nat.le_refl _,rfl,rfl,by omega,by simp,aG.nil _ _ _,HR,xh ⟨by rw [show K+(m-m)=K by omega]; exact HQ.out,.ak O0.out,fun g hg=> .inl hg,by simp [ah],B0.out,fun hF=>by have:=nB.out _ hF; omega⟩⟩
 case round=>
  obtain ⟨j,b,nx,made,F',hj,rfl,rfl,E4,nj,S,HW,HA⟩:=hrel;obtain ⟨VM,vm,rfl⟩:=aq S
  by_cases h0:0<j
  ·obtain ⟨i,rfl⟩: ∃i,j=i+1:=⟨j-1,by omega⟩;have hz:((i+1:Nat):Int)-1=(i:Nat):=by omega
   rw [hz];have q1:=HA.out.2.2.2.2.1.ab (i:=0) rfl;have IJ:228*i≤v.size:=by omega
   have K1:=xh (KP.out wr q1 i IJ);have rW:(cV v.data.toList i).length≤228:=by unfold cV; rw [List.length_take]; omega
   have rB:=HW.out;unfold QS.nW at rB;have hlk:ij v.data.toList i ((nx:Int)-1)=(((⟨(lZ nx).toArray⟩:ByteArray)++⟨(lZ (cV v.data.toList i).length).toArray⟩)++⟨(cV v.data.toList i).toArray⟩:ByteArray).data.toList:=by
    unfold ij; rw [show ((nx:Int)-1+1).toNat=nx by omega]; simp
   rw [hlk] at rB;have hps:(⟨(cV v.data.toList i).toArray⟩:ByteArray).size=(cV v.data.toList i).length:=by show (cV v.data.toList i).toArray.size=_; simp
   have hts: ∀x,(⟨(lZ x).toArray⟩:ByteArray).size=2:=fun x=>rfl;have hss:(((⟨(lZ nx).toArray⟩:ByteArray)++⟨(lZ (cV v.data.toList i).length).toArray⟩)++⟨(cV v.data.toList i).toArray⟩:ByteArray).size≤232:=by
    rw [ByteArray.size_append,ByteArray.size_append,hts,hts,hps]; omega
   have K2:=xh (KT.out nx (by omega));have K3:=xh (KT.out (cV v.data.toList i).length (by omega));have K4:=xh (fun (W:World) (hW:PQ W I F' b n (K+(m-(i+1))))=>KNEW.out W F' b _ hW _ hss (by omega));have u1:IntKind.i64.wrap (nx:Int)=(nx:Int):=IntWalk.i64_in _ (by omega);have hbd:=Le b ((((⟨(lZ nx).toArray⟩:ByteArray)++⟨(lZ (cV v.data.toList i).length).toArray⟩)++⟨(cV v.data.toList i).toArray⟩:ByteArray).data.toList);have t1:=hts nx
   have t2:=hts (cV v.data.toList i).length;generalize (⟨(lZ nx).toArray⟩:ByteArray)=T1 at *;generalize (⟨(lZ (cV v.data.toList i).length).toArray⟩:ByteArray)=T2 at *;generalize (⟨(cV v.data.toList i).toArray⟩:ByteArray)=PC at *;have z1: ¬9223372036854775807<T1.size+T2.size:=by omega
   have z2: ¬9223372036854775807<(T1++T2).size+PC.size:=by rw [ByteArray.size_append]; omega
   clear hlk hts hss;generalize b.bm (T1++T2++PC).data.toList=D at *;obtain ⟨D1,D2,D3⟩:=D;dsimp only at *;have HS:=xh (show ∀w4 w5 F5,Below wr.heap.size wr w4→PQ w5 I F5 D1 n (K+(m-(i+1))+1)→ag F' w4 w5→(∀g∈F5,g∈F'∨w4.heap.size≤g)→
     PQ w5 I F5 D1 n (K+(m-(i+1))+1)∧ag F w w5∧(∀g∈F5,g∈F∨w.heap.size≤g)∧aG w5 3 1 (.slice VM made.length vm) made.length (cw made)∧(∀g∈ah (.slice VM made.length vm),w.heap.size≤g∧g∉F5)∧ax w5 w.heap.size 9 #[.string v]∧w.heap.size∉F5 from fun w4 w5 F5 hb A5 o5 f5=>by
    obtain ⟨a1,a2,a3,a4,a5,a6⟩:=HA.out;have s4:=S.below hb;have b4:=a5.below hb a5.lt;have IM:w.heap.size≤w4.heap.size:=Nat.le_trans a2.size hb.size
    refine ⟨A5,(a2.trans (.ak hb)).aS o5 (fun g hg dL=>(a3 g hg).elim id (fun h=>by omega)),fun g hg=>(f5 g hg).elim (a3 g) (fun h=> .inr (by omega)),s4.only o5 (fun g hg=>(a4 g hg).2),fun g hg=>⟨(a4 g hg).1,fun hF=>(f5 g hF).elim (a4 g hg).2 (fun h=>by have:=s4.lt g hg; omega)⟩,b4.only o5 a6,fun hF=>(f5 _ hF).elim a6 (fun h=>by have:=b4.lt; omega)⟩)
   by_cases hd:D3=0
   ·subst hd;rw [if_neg (by simp)] at rB;obtain ⟨d2,rfl⟩:=Int.eq_ofNat_of_zero_le hbd.1;have HW3:=xh rB;clear rB;go_wp2_with fail;refine K1.out.mono ?_;rintro e w2 ⟨rfl,rfl⟩;go_wp2_with fail;refine (K2.out _).mono ?_;rintro e w3 ⟨rfl,eG⟩;have H3:=xh eG;go_wp2_with fail;refine (K3.out _).mono ?_;rintro e w4 ⟨rfl,fM⟩;have H4:=xh (ao H3.out fM);clear eG fM;go_wp2_with fail;refine (K4.out _ (HA.out.1.below H4.out)).mono ?_;rintro e w5 ⟨rfl,F5,A5,o5,f5⟩
    have H5:=xh (HS.out w4 w5 F5 H4.out A5 o5 f5);clear A5 o5 f5;obtain ⟨v',w6,ea,S6,ow,fr⟩:=cd (P:=Tryz.prog) H5.out.2.2.2.1 60 60 (.int .i64 0) 8 Tryz.underlying60 gh rfl (.int .i64 (d2:Nat)) rfl (by unfold maxLen; omega) (by omega);obtain ⟨V6,c6,rfl⟩:=aq S6
    have H6:=xh (show aG w6 3 1 (.slice V6 (made.length+1) c6) (made++[(d2:Int)]).length (cw (made++[(d2:Int)]))∧PQ w6 I F5 D1 n (K+(m-i))∧ag F w w6∧(∀g∈F5,g∈F∨w.heap.size≤g)∧(∀g∈ah (.slice V6 (made.length+1) c6),w.heap.size≤g∧g∉F5)∧ax w6 w.heap.size 9 #[.string v]∧w.heap.size∉F5 from by
     obtain ⟨a1,a2,a3,a4,a5,a6,a7⟩:=H5.out;refine ⟨by rw [List.length_append,eB]; exact S6,(a1.only ow (fun g hF hg=>(a5 g hg).2 hF)).le (by omega),a2.aS ow (fun g hg dL=>by have:=(a5 g hg).1; omega),a3,fun g hg=>?_,a6.only ow (fun hg=>cv a4 a6 (by decide) hg),a7⟩
     rcases fr g hg with h | h
     ·exact a5 g h
     ·exact ⟨by have:=a2.size; omega,fun hF=>by have:=a1.lt g hF; omega⟩)
    rw [nj] at ea;have EA:=xh ea;clear ea S6 ow fr;go_wp2_with fail;rw [EA.out];go_wp2_with fail;go_roundw
    case rel=>exact ⟨i,D1,d2+1,made++[(d2:Int)],F5,by omega,by go_num,by simp,by omega,by rw [List.length_append,nj,List.length_singleton]; omega,by have:=H6.out.1; rw [nj] at this; exact this,by rw [show ((d2+1:Nat):Int)-1=(d2:Nat) by omega]; exact HW3,xh ⟨H6.out.2.1,H6.out.2.2.1,H6.out.2.2.2.1,by have:=H6.out.2.2.2.2.1; rw [nj] at this; exact this,H6.out.2.2.2.2.2.1,H6.out.2.2.2.2.2.2⟩⟩
    case measure=>simp [intOf]<;>omega
   ·rw [if_pos hd] at rB;subst rB;have hq:(D3 != 0)=true:=by rw [bne_iff_ne]; exact hd
    have jm:(D3==0)=false:=by rw [beq_eq_false_iff_ne]; exact hd
    go_wp2_with fail;refine K1.out.mono ?_;rintro e w2 ⟨rfl,rfl⟩;go_wp2_with fail;refine (K2.out _).mono ?_;rintro e w3 ⟨rfl,eG⟩;have H3:=xh eG;go_wp2_with fail;refine (K3.out _).mono ?_;rintro e w4 ⟨rfl,fM⟩;have H4:=xh (ao H3.out fM);clear eG fM;go_wp2_with fail;refine (K4.out _ (HA.out.1.below H4.out)).mono ?_;rintro e w5 ⟨rfl,F5,A5,o5,f5⟩;have H5:=xh (HS.out w4 w5 F5 H4.out A5 o5 f5);clear A5 o5 f5;have hml2:(made.length:Int)≤5:=by omega
    have HM:=xh nj;rw [←nj];clear nj;go_wp2_with fail
    go_loopw [52] (fun tv wq=> ∃(t:Nat) (b':QS),t≤made.length∧tv= .int .i64 t∧Hid (b'.j7 (made.drop t)=D1.j7 made)∧Hid (PQ wq I F5 b' n (K+(m-(i+1))+1)∧ag F w wq∧aG wq 3 1 (.slice VM made.length vm) made.length (cw made))) (fun tv _=>made.length-(intOf tv).toNat)
    case atStart=>exact ⟨0,D1,Nat.zero_le _,rfl,xh rfl,xh ⟨H5.out.1,H5.out.2.1,H5.out.2.2.2.1⟩⟩
    case round=>
     obtain ⟨t,b',ht,rfl,HT,HB⟩:=hrel
     by_cases dL:t<made.length
     ·obtain ⟨x,hx⟩: ∃x,made[t]?=some x:=⟨made[t],List.getElem?_eq_getElem dL⟩;have Fc:made.drop t=x::made.drop (t+1):=by
       rw [List.drop_eq_getElem_cons dL]
       congr 1
       rw [List.getElem?_eq_getElem dL] at hx;injection hx
      obtain ⟨g,cp,rest,ID,BB,_⟩: ∃g cp rest,(Value.slice VM made.length vm)= .slice (some ⟨g,0,none⟩) made.length cp∧ax wr g 3 (cw made++rest).toArray∧True:=by
       rcases HB.out.2.2.2 with ⟨h1,h2⟩ | ⟨g,cap,rest,h1,h2,_⟩
       ·omega
       ·exact ⟨g,cap,rest,h1,h2,trivial⟩
      injection ID with e1 e2 e3
      subst e1 e3;have cx:wr.cell? ⟨g,t,none⟩=some (.int .i64 x):=BB.ab (by
       rw [List.getElem?_toArray,List.getElem?_append_left (by simpa using dL)];simp [cw,hx])
      have HT2:=HT.out;rw [Fc,QS.pC] at HT2;have HT3:=xh HT2;have K6:=xh (KD.out wr F5 b' _ HB.out.1 x);have htI:(t:Int)<(made.length:Int):=by omega
      clear BB hx Fc HT2;go_wp2_with fail;refine K6.out.mono ?_;rintro e w7 ⟨rfl,A7,o7⟩;have H7:=xh (show PQ w7 I F5 (b'.aE x).1 n (K+(m-(i+1))+1)∧ag F w w7∧aG w7 3 1 (.slice (some ⟨g,0,none⟩) made.length vm) made.length (cw made) from ⟨A7,HB.out.2.1.aS o7 (fun g hg dL=>(H5.out.2.2.1 g hg).elim id (fun h=>by omega)),HB.out.2.2.only o7 (fun g' hg=>(H5.out.2.2.2.2.1 g' hg).2)⟩);clear A7 o7 cx;go_wp2_with fail;go_roundw
      case rel=>exact ⟨t+1,(b'.aE x).1,by omega,by go_num,HT3,H7⟩
      case measure=>simp [intOf]; omega
     ·have HT2:=HT.out;rw [List.drop_eq_nil_of_le (by omega)] at HT2;have HT2:b'=D1.j7 made:=HT2;subst HT2;obtain rfl:t=made.length:=by omega
      go_wp2_with fail;go_ret2;exact ⟨by first | rfl | simp,F5,HB.out.1.le (by omega),HB.out.2.1,H5.out.2.2.1⟩
  ·obtain rfl:j=0:=by omega
   have rB:=HW.out;unfold QS.nW at rB;subst rB;go_wp2_with fail;go_ret2;exact ⟨by first | rfl | simp,F',HA.out.1.le (by omega),HA.out.2.1,HA.out.2.2.1⟩
end Go.Proofs.YtmonobkginiajaaGreat.Sh
namespace Go.Proofs.YtmonobkginiajaaGreat.Sl
open Go.RowKit
def dD (n:Nat):List UInt8:=[UInt8.ofNat (n / 256),UInt8.ofNat n]
def bh (b:List UInt8) (k:Nat):Nat:=(b.getD k 0).toNat*256+(b.getD (k+1) 0).toNat
abbrev Slot:=Nat×Nat
def slot (b:List UInt8) (i:Nat):Slot:=(bh b (4+4*i),bh b (6+4*i))
def aZ (b:List UInt8):List Slot:=(List.range (bh b 0)).map (slot b)
def apart (x y:Slot):Bool:=decide (x.2=0) || (decide (y.2=0) || (decide (x.1+x.2≤y.1) || decide (y.1+y.2≤x.1)))
structure Fit (heap:Nat) (l:List Slot):Prop where
 lG: ∀x∈l,heap≤x.1∧x.1+x.2≤232
 apart:l.Pairwise fun x y=>Sl.apart x y=true
structure Sound (b:List UInt8):Prop where
 len:b.length=232
 heap:bh b 2≤232
 head:4+4*bh b 0≤bh b 2
 fit:Fit (bh b 2) (aZ b)
def qA (l:List Slot):Nat:=(l.map Prod.snd).sum
def jf (b:List UInt8) (x:Slot):List UInt8:=(b.drop x.1).take x.2
def bX (b:List UInt8):List (List UInt8):=(aZ b).map (jf b)
theorem ug (b:List UInt8) (k:Nat):bh b k<65536:=by
 have h1:=(b.getD k 0).toNat_lt;have h2:=(b.getD (k+1) 0).toNat_lt;unfold bh; omega
theorem cf (b:List UInt8):(aZ b).length=bh b 0:=by simp [aZ]
theorem wW (b:List UInt8) (i:Nat) (h:i<bh b 0):(aZ b)[i]?=some (slot b i):=by simp [aZ,h]
theorem k8 (x y:Slot):apart x y=apart y x:=by
 unfold apart
 cases h1:decide (x.2=0)<;>cases h2:decide (y.2=0)<;>cases h3:decide (x.1+x.2≤y.1)<;>cases h4:decide (y.1+y.2≤x.1)<;>rfl
theorem mP (x y:Slot):apart x y=true↔x.2=0∨y.2=0∨x.1+x.2≤y.1∨y.1+y.2≤x.1:=by simp [apart]
theorem Lg (x y:Slot):apart x y=false↔ ∃k,(x.1≤k∧k<x.1+x.2)∧(y.1≤k∧k<y.1+y.2):=by
 constructor
 ·intro h;have: ¬(x.2=0∨y.2=0∨x.1+x.2≤y.1∨y.1+y.2≤x.1):=by rw [←mP]; simp [h]
  refine ⟨max x.1 y.1,⟨by omega,by omega⟩,⟨by omega,by omega⟩⟩
 ·rintro ⟨k,h1,h2⟩
  cases h:apart x y
  ·rfl
  ·rw [mP] at h; omega
def uh (l:List Slot) (x:Slot):Bool:=l.all fun y=>apart x y
def Lh (heap:Nat):List Slot→List Slot→Bool
 | _,[]=>true
 | p,x::l=>decide (heap≤x.1) && (decide (x.1+x.2≤232) && (uh p x && Lh heap (p++[x]) l))
def DH (b:List UInt8):Bool:=decide (b.length=232) && (decide (bh b 2≤232) && (decide (4+4*bh b 0≤bh b 2) && Lh (bh b 2) [] (aZ b)))
theorem Fit.snoc {heap:Nat} {p:List Slot} {x:Slot}:Fit heap (p++[x])↔Fit heap p∧(heap≤x.1∧x.1+x.2≤232)∧ ∀y∈p,Sl.apart x y=true:=by
 constructor
 ·rintro ⟨h1,h2⟩;rw [List.pairwise_append] at h2;exact ⟨⟨fun y hy=>h1 y (by simp [hy]),h2.1⟩,h1 x (by simp),fun y hy=>by rw [k8]; exact h2.2.2 y hy x (by simp)⟩
 ·rintro ⟨⟨h1,h2⟩,h3,h4⟩;refine ⟨fun y hy=>?_,?_⟩
  ·rcases List.mem_append.1 hy with h | h
   ·exact h1 y h
   ·simp at h; subst h; exact h3
  ·rw [List.pairwise_append];exact ⟨h2,by simp,fun y hy z hz=>by simp at hz; subst hz; rw [k8]; exact h4 y hy⟩
theorem Fit.nil (heap:Nat):Fit heap []:=⟨fun x h=>by simp at h,by simp⟩
theorem Li (heap:Nat) (l:List Slot): ∀p:List Slot,Fit heap p→(Lh heap p l=true↔Fit heap (p++l)):=by
 induction l with
 | nil=>intro p h; simp [Lh,h]
 | cons x l ih=>
  intro p h;have key:(heap≤x.1∧x.1+x.2≤232∧uh p x=true)↔Fit heap (p++[x]):=by
   rw [Fit.snoc];simp only [uh,List.all_eq_true];exact ⟨fun ⟨h1,h2,h3⟩=>⟨h,⟨h1,h2⟩,h3⟩,fun ⟨_,⟨h1,h2⟩,h3⟩=>⟨h1,h2,h3⟩⟩
  simp only [Lh,Bool.and_eq_true,decide_eq_true_eq]
  constructor
  ·rintro ⟨h1,h2,h3,h4⟩;have hf:=key.1 ⟨h1,h2,h3⟩;have:=(ih _ hf).1 h4;simpa using this
  ·intro hf;have hp:Fit heap (p++[x]):=by
    refine ⟨fun y hy=>hf.lG y (by simp at hy ⊢; rcases hy with h | h<;>simp [h]),?_⟩;have:=hf.apart;rw [show p++x::l=(p++[x])++l by simp,List.pairwise_append] at this;exact this.1
   obtain ⟨h1,h2,h3⟩:=key.2 hp;exact ⟨h1,h2,h3,(ih _ hp).2 (by simpa using hf)⟩
theorem nX (b:List UInt8):DH b=true↔Sound b:=by
 have h:=Li (bh b 2) (aZ b) [] (Fit.nil _);rw [List.nil_append] at h;simp only [DH,Bool.and_eq_true,decide_eq_true_eq,h];exact ⟨fun ⟨h1,h2,h3,h4⟩=>⟨h1,h2,h3,h4⟩,fun h=>⟨h.len,h.heap,h.head,h.fit⟩⟩
def bw (b:List UInt8):Int:=if b.length=232 then (if DH b then 0 else 14) else 6
theorem dj (b:List UInt8):bw b=0↔Sound b:=by
 rw [←nX];unfold bw
 constructor
 ·intro h
  split at h
  ·split at h
   ·assumption
   ·cases h
  ·cases h
 ·intro h;have:=((nX b).1 h).len;rw [if_pos this,if_pos h]
def fD (b:List UInt8):Int:=228-((((aZ b).map fun x=>4+x.2).sum:Nat):Int)
def cover (l:List Slot) (k:Nat):Bool:=l.any fun x=>decide (x.1≤k) && decide (k<x.1+x.2)
theorem count_range (a n m:Nat) (h:a+n≤m):((List.range m).countP fun k=>decide (a≤k) && decide (k<a+n))=n:=by
 induction m generalizing n with
 | zero=>
  have:n=0:=by omega
  subst this; simp
 | succ m ih=>
  rw [List.range_succ,List.countP_append]
  rcases Nat.lt_or_ge (a+n) (m+1) with h1 | h1
  ·rw [ih n (by omega)];simp; omega
  ·obtain rfl | hn:n=0∨0<n:=Nat.eq_zero_or_pos n
   ·have:(List.range m).countP (fun k=>decide (a≤k) && decide (k<a+0))=0:=by
     rw [List.countP_eq_zero]; intro k _; simp<;>omega
    rw [this]; simp<;>omega
   ·have e:(List.range m).countP (fun k=>decide (a≤k) && decide (k<a+n))=(List.range m).countP (fun k=>decide (a≤k) && decide (k<a+(n-1))):=by
     apply List.countP_congr;intro k hk;have:=List.mem_range.1 hk;simp; omega
    rw [e,ih (n-1) (by omega)];simp;have:a≤m∧m<a+n:=by omega
    simp [this]; omega
theorem Ao (l:List Slot) (heap:Nat) (h:Fit heap l):(List.range 232).countP (cover l)=qA l:=by
 induction l with
 | nil=>simp [cover,qA]
 | cons x l ih=>
  have hx:=h.lG x (by simp);have hp:=List.pairwise_cons.1 h.apart;have ht:Fit heap l:=⟨fun y hy=>h.lG y (by simp [hy]),hp.2⟩;have e:(List.range 232).countP (cover (x::l))=(List.range 232).countP (fun k=>decide (x.1≤k) && decide (k<x.1+x.2))+(List.range 232).countP (cover l):=by
   generalize List.range 232=r
   induction r with
   | nil=>rfl
   | cons k r ihr=>
    simp only [List.countP_cons,ihr];have hdis: ¬((x.1≤k∧k<x.1+x.2)∧cover l k=true):=by
     rintro ⟨h1,h2⟩;simp only [cover,List.any_eq_true,Bool.and_eq_true,decide_eq_true_eq] at h2;obtain ⟨y,hy,h3⟩:=h2;have hn:=(Lg x y).2 ⟨k,h1,h3⟩;rw [hp.1 y hy] at hn; cases hn
    have ec:cover (x::l) k=((decide (x.1≤k) && decide (k<x.1+x.2)) || cover l k):=rfl;rw [ec]
    cases h1:(decide (x.1≤k) && decide (k<x.1+x.2))<;>cases h2:cover l k
    ·simp
    ·simp; omega
    ·simp; omega
    ·exfalso; apply hdis; simp at h1; exact ⟨h1,h2⟩
  rw [e,count_range _ _ _ hx.2,ih ht];simp [qA]
theorem wX (l:List Slot) (heap:Nat) (h:Fit heap l) (hh:heap≤232):qA l≤232-heap:=by
 rw [←Ao l heap h];have e:(List.range 232).countP (cover l)≤(List.range 232).countP (fun k=>decide (heap≤k) && decide (k<heap+(232-heap))):=by
  apply List.countP_mono_left;intro k hk hc;simp only [cover,List.any_eq_true,Bool.and_eq_true,decide_eq_true_eq] at hc;obtain ⟨y,hy,h3⟩:=hc;have:=h.lG y hy;have:=List.mem_range.1 hk;simp; omega
 have:=count_range heap (232-heap) 232 (by omega);omega
end Go.Proofs.YtmonobkginiajaaGreat.Sl
namespace Go.Proofs.YtmonobkginiajaaGreat.Sl
open Go.RowKit
def lay (F:List UInt8) (o:Nat) (c:List UInt8):List UInt8:=F.take o++c++F.drop (o+c.length)
theorem fN {F:List UInt8} {o:Nat} {c:List UInt8} (h:o+c.length≤F.length):(lay F o c).length=F.length:=by
 simp [lay]; omega
theorem oR (F:List UInt8) (o:Nat) (c:List UInt8):putAt (cI F) o (cI c)=cI (lay F o c):=by
 simp [putAt,lay,cI]
theorem kU {F:List UInt8} {o:Nat} {c:List UInt8} (h:o+c.length≤F.length) (j:Nat):(lay F o c)[j]?=if o≤j∧j<o+c.length then c[j-o]? else F[j]?:=by
 unfold lay
 by_cases h1:j<o
 ·rw [if_neg (by omega),List.append_assoc,List.getElem?_append_left (by simp; omega),List.getElem?_take_of_lt h1]
 ·have e:(F.take o).length=o:=by simp; omega
  by_cases h2:j<o+c.length
  ·rw [if_pos ⟨by omega,h2⟩,List.append_assoc,List.getElem?_append_right (by omega),e,List.getElem?_append_left (by omega)]
  ·rw [if_neg (by omega),List.getElem?_append_right (by simp; omega),List.getElem?_drop]
   congr 1
   simp; omega
def jO (b:List UInt8) (k n:Nat):List UInt8:=(b.set k (UInt8.ofNat (n / 256))).set (k+1) (UInt8.ofNat n)
theorem du (b:List UInt8) (k n:Nat):(jO b k n).length=b.length:=by simp [jO]
theorem ky (b:List UInt8) (k n j:Nat) (h:j<k∨k+1<j):(jO b k n)[j]?=b[j]?:=by
 unfold jO;rw [List.getElem?_set_ne (by omega),List.getElem?_set_ne (by omega)]
theorem at2_eq {b c:List UInt8} {k:Nat} (h0:b[k]?=c[k]?) (h1:b[k+1]?=c[k+1]?):bh b k=bh c k:=by
 simp only [bh,List.getD,h0,h1]
theorem dH (b:List UInt8) (k n j:Nat) (h:j+1<k∨k+1<j):bh (jO b k n) j=bh b j:=
 at2_eq (ky b k n j (by omega)) (ky b k n (j+1) (by omega))
theorem pD (b:List UInt8) (k n:Nat) (h:k+1<b.length) (hn:n<65536):bh (jO b k n) k=n:=by
 have e0:(jO b k n)[k]?=some (UInt8.ofNat (n / 256)):=by
  unfold jO;rw [List.getElem?_set_ne (by omega),List.getElem?_set_self (by omega)]
 have e1:(jO b k n)[k+1]?=some (UInt8.ofNat n):=by
  unfold jO;rw [List.getElem?_set_self (by simpa using h)]
 simp only [bh,List.getD,e0,e1,Option.getD_some,UInt8.toNat_ofNat'];omega
def eW (b:List UInt8) (l:List Slot) (heap:Nat):Nat→List UInt8
 | 0=>jO (jO b 0 l.length) 2 heap
 | i+1=>jO (jO (eW b l heap i) (4+4*i) (l.getD i (0,0)).1) (6+4*i) (l.getD i (0,0)).2
def iu (b:List UInt8) (l:List Slot) (heap:Nat):List UInt8:=eW b l heap l.length
theorem iI (b:List UInt8) (l:List Slot) (heap:Nat): ∀i,(eW b l heap i).length=b.length
 | 0=>by simp [eW,du]
 | i+1=>by rw [eW,du,du]; exact iI b l heap i
theorem ui (b:List UInt8) (l:List Slot) (heap:Nat) (j:Nat): ∀i,4+4*i≤j→(eW b l heap i)[j]?=b[j]?
 | 0,h=>by rw [eW,ky _ _ _ _ (by omega),ky _ _ _ _ (by omega)]
 | i+1,h=>by rw [eW,ky _ _ _ _ (by omega),ky _ _ _ _ (by omega)]; exact ui b l heap j i (by omega)
theorem mQ (b:List UInt8) (l:List Slot) (heap:Nat) (hb:b.length=232) (hh:heap<65536) (hl:l.length<65536) (hx: ∀x∈l,x.1<65536∧x.2<65536):
  ∀i,i≤l.length→4+4*i≤232→bh (eW b l heap i) 0=l.length∧bh (eW b l heap i) 2=heap∧ ∀k,k<i→slot (eW b l heap i) k=l.getD k (0,0)
 | 0,_,_=>by
  rw [eW];refine ⟨?_,?_,fun k hk=>absurd hk (by omega)⟩
  ·rw [dH _ _ _ _ (by omega),pD _ _ _ (by omega) hl]
  ·rw [pD _ _ _ (by rw [du]; omega) hh]
 | i+1,hi,h4=>by
  obtain ⟨h0,h2,hs⟩:=mQ b l heap hb hh hl hx i (by omega) (by omega);have hlen:=iI b l heap i;rw [eW];refine ⟨?_,?_,fun k hk=>?_⟩
  ·rw [dH _ _ _ _ (by omega),dH _ _ _ _ (by omega)]; exact h0
  ·rw [dH _ _ _ _ (by omega),dH _ _ _ _ (by omega)]; exact h2
  ·unfold slot
   by_cases e:k=i
   ·subst e;have hm:l.getD k (0,0)∈l:=by
     rw [List.getD,List.getElem?_eq_getElem (by omega)]; exact List.getElem_mem _
    have:=hx _ hm;rw [dH _ _ _ _ (by omega),pD _ _ _ (by omega) this.1,pD _ _ _ (by rw [du]; omega) this.2]
   ·rw [dH _ _ _ _ (by omega),dH _ _ _ _ (by omega),dH _ _ _ _ (by omega),dH _ _ _ _ (by omega)];exact hs k (by omega)
section
variable {b:List UInt8} {l:List Slot} {heap:Nat}
structure Laid (b:List UInt8) (l:List Slot) (heap:Nat):Prop where
 len:b.length=232
 hh:heap≤232
 head:4+4*l.length≤heap
 fit:Fit heap l
theorem Laid.small (h:Laid b l heap): ∀x∈l,x.1<65536∧x.2<65536:=fun x hx=>by
 have:=(h.fit.lG x hx).2;omega
theorem Laid.n0 (h:Laid b l heap):bh (iu b l heap) 0=l.length:=(mQ b l heap h.len (by have:=h.hh; omega) (by have:=h.head; have:=h.hh; omega) h.small l.length (Nat.le_refl _) (by have:=h.head; have:=h.hh; omega)).1
theorem Laid.n2 (h:Laid b l heap):bh (iu b l heap) 2=heap:=(mQ b l heap h.len (by have:=h.hh; omega) (by have:=h.head; have:=h.hh; omega) h.small l.length (Nat.le_refl _) (by have:=h.head; have:=h.hh; omega)).2.1
theorem Laid.sl (h:Laid b l heap):aZ (iu b l heap)=l:=by
 have hs:=(mQ b l heap h.len (by have:=h.hh; omega) (by have:=h.head; have:=h.hh; omega) h.small l.length (Nat.le_refl _) (by have:=h.head; have:=h.hh; omega)).2.2;apply List.ext_getElem
 ·rw [cf,h.n0]
 ·intro i h1 h2;have:(aZ (iu b l heap))[i]=slot (iu b l heap) i:=by simp [aZ]
  rw [this,show slot (iu b l heap) i=l.getD i (0,0) from hs i h2];simp [List.getD,List.getElem?_eq_getElem h2]
theorem Laid.length (h:Laid b l heap):(iu b l heap).length=232:=(iI b l heap l.length).trans h.len
theorem Laid.sound (h:Laid b l heap):Sound (iu b l heap):=
 ⟨h.length,by rw [h.n2]; exact h.hh,by rw [h.n2,h.n0]; exact h.head,by rw [h.n2,h.sl]; exact h.fit⟩
theorem Laid.rc (h:Laid b l heap): ∀x∈l,jf (iu b l heap) x=jf b x:=by
 intro x hx;have h1:=(h.fit.lG x hx).1;unfold jf
 congr 1
 apply List.ext_getElem?;intro j;rw [List.getElem?_drop,List.getElem?_drop];exact ui b l heap _ _ (by have:=h.head; omega)
theorem Laid.rcs (h:Laid b l heap):bX (iu b l heap)=l.map (jf b):=by
 unfold bX;rw [h.sl];exact List.map_congr_left h.rc
theorem Ap {F:List UInt8} {o:Nat} {c:List UInt8} (h:o+c.length≤F.length) (x:Slot) (hx:x.1+x.2≤o∨o+c.length≤x.1):jf (lay F o c) x=jf F x:=by
 unfold jf;apply List.ext_getElem?;intro j
 by_cases hj:j<x.2
 ·rw [List.getElem?_take_of_lt hj,List.getElem?_take_of_lt hj,List.getElem?_drop,List.getElem?_drop,kU h,if_neg (by omega)]
 ·rw [List.getElem?_eq_none (by simp; omega),List.getElem?_eq_none (by simp; omega)]
theorem wY {F:List UInt8} {o:Nat} {c:List UInt8} (h:o+c.length≤F.length):jf (lay F o c) (o,c.length)=c:=by
 unfold jf;apply List.ext_getElem?;intro j
 by_cases hj:j<c.length
 ·rw [List.getElem?_take_of_lt hj,List.getElem?_drop,kU h,if_pos ⟨by omega,by omega⟩]
  congr 1; omega
 ·rw [List.getElem?_eq_none (by simp; omega),List.getElem?_eq_none (by omega)]
end
structure nr where
 out:List UInt8
 to:List Slot
 heap:Nat
def wZ:nr:=⟨List.replicate 232 0,[],232⟩
def nr.add (c:nr) (r:List UInt8):nr:=⟨lay c.out (c.heap-r.length) r,c.to++[(c.heap-r.length,r.length)],c.heap-r.length⟩
def nD (l:List (List UInt8)):nr:=l.foldl nr.add wZ
structure nr.Ok (c:nr) (l:List (List UInt8)):Prop where
 len:c.out.length=232
 heap:c.heap+(l.map List.length).sum=232
 fit:Fit c.heap c.to
 bX:c.to.map (jf c.out)=l
theorem Lj:wZ.Ok []:=⟨List.length_replicate,rfl,Fit.nil _,rfl⟩
theorem Fit.mono {heap heap':Nat} {l:List Slot} (h:Fit heap l) (hh:heap'≤heap):Fit heap' l:=⟨fun x hx=>⟨Nat.le_trans hh (h.lG x hx).1,(h.lG x hx).2⟩,h.apart⟩
theorem nr.Ok.add {c:nr} {l:List (List UInt8)} (h:c.Ok l) (r:List UInt8) (hr:r.length≤c.heap):(c.add r).Ok (l++[r]):=by
 have h1:=h.heap;have h2:=h.len;refine ⟨by show (lay _ _ _).length=232; rw [fN (by omega)]; exact h.len,by show c.heap-r.length+_=232; simp; omega,?_,?_⟩
 ·show Fit (c.heap-r.length) (c.to++[(c.heap-r.length,r.length)]);rw [Fit.snoc];refine ⟨h.fit.mono (Nat.sub_le _ _),⟨Nat.le_refl _,by show c.heap-r.length+r.length≤232; omega⟩,fun y hy=>?_⟩;have:=(h.fit.lG y hy).1;rw [mP];exact .inr (.inr (.inl (by show c.heap-r.length+r.length≤y.1; omega)))
 ·show (c.to++[(c.heap-r.length,r.length)]).map (jf (lay c.out (c.heap-r.length) r))=l++[r];rw [List.map_append,←h.bX]
  congr 1
  ·apply List.map_congr_left;intro y hy;have:=(h.fit.lG y hy).1;exact Ap (by omega) y (.inr (by omega))
  ·simp only [List.map_cons,List.map_nil];rw [wY (by omega)]
theorem uj (l:List (List UInt8)) (h:(l.map List.length).sum≤232):(nD l).Ok l:=by
 have key: ∀(l m:List (List UInt8)) (c:nr),c.Ok m→((m++l).map List.length).sum≤232→(l.foldl nr.add c).Ok (m++l):=by
  intro l
  induction l with
  | nil=>intro m c h _; simpa using h
  | cons r l ih=>
   intro m c h hs;have h1:=h.heap;have:=ih (m++[r]) (c.add r) (h.add r (by simp at hs h1; omega)) (by simpa using hs);simpa using this
 have:=key l [] wZ Lj (by simpa using h);rw [List.nil_append] at this;exact this
def eS (b:List UInt8):List UInt8:=iu (nD (bX b)).out (nD (bX b)).to (nD (bX b)).heap
theorem rC {b:List UInt8} {x:Slot} (h:x.1+x.2≤b.length):(jf b x).length=x.2:=by
 simp [jf]; omega
theorem Sound.lens {b:List UInt8} (h:Sound b):((bX b).map List.length)=(aZ b).map Prod.snd:=by
 unfold bX;rw [List.map_map];apply List.map_congr_left;intro x hx;exact rC (by rw [h.len]; exact (h.fit.lG x hx).2)
theorem Sound.sum {b:List UInt8} (h:Sound b):((bX b).map List.length).sum≤232-bh b 2:=by
 rw [h.lens]; exact wX _ _ h.fit h.heap
theorem nr.Ok.Lk {c:nr} {l:List (List UInt8)} (h:c.Ok l):c.to.length=l.length:=by rw [←h.bX,List.length_map]
theorem bY (b:List UInt8):(bX b).length=bh b 0:=by simp [bX,cf]
theorem Sound.comp {b:List UInt8} (h:Sound b):Laid (nD (bX b)).out (nD (bX b)).to (nD (bX b)).heap:=by
 have hs:=h.sum;have hh:=h.heap;have h4:=h.head;have hc:=uj (bX b) (by omega);have h1:=hc.heap;have h2:=hc.Lk;rw [bY] at h2;exact ⟨hc.len,by omega,by omega,hc.fit⟩
theorem Sound.compact {b:List UInt8} (h:Sound b):Sound (eS b)∧bX (eS b)=bX b∧bh (eS b) 2+((bX b).map List.length).sum=232∧aZ (eS b)=(nD (bX b)).to:=by
 have hs:=h.sum;have hh:=h.heap;have hc:=uj (bX b) (by omega);have L:=h.comp;exact ⟨L.sound,L.rcs.trans hc.bX,by unfold eS; rw [L.n2]; exact hc.heap,L.sl⟩
theorem uk {b:List UInt8} (h:Sound b):fD b=228-4*(bh b 0:Int)-(((bX b).map List.length).sum:Nat):=by
 rw [h.lens];have e: ∀l:List Slot,(l.map fun x=>4+x.2).sum=4*l.length+(l.map Prod.snd).sum:=by
  intro l
  induction l with
  | nil=>rfl
  | cons x l ih=>simp only [List.map_cons,List.sum_cons,ih,List.length_cons]; omega
 unfold fD;rw [e,cf];omega
def gD (l:List (List UInt8)):Int:=228-((l.map fun r=>4+r.length).sum:Nat)
theorem Fe {b:List UInt8} (h:Sound b):fD b=gD (bX b):=by
 rw [uk h];have e: ∀l:List (List UInt8),(l.map fun r=>4+r.length).sum=4*l.length+(l.map List.length).sum:=by
  intro l
  induction l with
  | nil=>rfl
  | cons x l ih=>simp only [List.map_cons,List.sum_cons,ih,List.length_cons]; omega
 unfold gD;rw [e,bY];omega
def gV (b r:List UInt8):List UInt8:=if 4+4*(bh b 0+1)+r.length>bh b 2 then eS b else b
def nY (b:List UInt8) (i:Nat) (r:List UInt8):List UInt8:=
 iu (lay (gV b r) (bh (gV b r) 2-r.length) r) ((aZ (gV b r)).take i++(bh (gV b r) 2-r.length,r.length)::(aZ (gV b r)).drop i) (bh (gV b r) 2-r.length)
theorem Sound.base {b:List UInt8} (h:Sound b) (r:List UInt8) (hr:(r.length:Int)≤fD b-4):Sound (gV b r)∧bX (gV b r)=bX b∧bh (gV b r) 0=bh b 0∧4+4*(bh b 0+1)+r.length≤bh (gV b r) 2:=by
 unfold gV
 split
 ·obtain ⟨h1,h2,h3,_⟩:=h.compact;have e0:bh (eS b) 0=bh b 0:=by rw [←bY,←bY,h2]
  rw [uk h] at hr;exact ⟨h1,h2,e0,by omega⟩
 ·exact ⟨h,rfl,rfl,by omega⟩
theorem Laid.insert {b:List UInt8} (h:Sound b) (i:Nat) (r:List UInt8) (hr:4+4*(bh b 0+1)+r.length≤bh b 2) (hi:i≤bh b 0):
  Laid (lay b (bh b 2-r.length) r) ((aZ b).take i++(bh b 2-r.length,r.length)::(aZ b).drop i) (bh b 2-r.length):=by
 have h1:=h.heap;have h2:=h.len;have hl:=cf b;refine ⟨by rw [fN (by omega)]; exact h2,by omega,by simp [hl]; omega,?_,?_⟩
 ·intro x hx;have hx:x∈(aZ b).take i∨x=(bh b 2-r.length,r.length)∨x∈(aZ b).drop i:=by simpa using hx
  rcases hx with hx | rfl | hx
  ·have:=h.fit.lG x (List.mem_of_mem_take hx); omega
  ·exact ⟨Nat.le_refl _,by show bh b 2-r.length+r.length≤232; omega⟩
  ·have:=h.fit.lG x (List.mem_of_mem_drop hx); omega
 ·have hp:=h.fit.apart;rw [←List.take_append_drop i (aZ b),List.pairwise_append] at hp;rw [List.pairwise_append,List.pairwise_cons];have hz: ∀y∈aZ b,apart (bh b 2-r.length,r.length) y=true:=by
   intro y hy;have:=(h.fit.lG y hy).1;rw [mP];exact .inr (.inr (.inl (by show bh b 2-r.length+r.length≤y.1; omega)))
  refine ⟨hp.1,⟨fun y hy=>hz y (List.mem_of_mem_drop hy),hp.2.1⟩,fun x hx y hy=>?_⟩
  rcases List.mem_cons.1 hy with rfl | hy
  ·rw [k8]; exact hz x (List.mem_of_mem_take hx)
  ·exact hp.2.2 x hx y hy
theorem Sound.insert {b:List UInt8} (h:Sound b) (i:Nat) (r:List UInt8) (hr:(r.length:Int)≤fD b-4) (hi:i≤bh b 0):
  Sound (nY b i r)∧bX (nY b i r)=(bX b).take i++r::(bX b).drop i:=by
 obtain ⟨hs,he,h0,hh⟩:=h.base r hr;rw [←h0] at hi hh;have L:=Laid.insert hs i r hh hi;refine ⟨L.sound,?_⟩;have h2:=hs.len;have h3:=hs.heap;have key: ∀x∈aZ (gV b r),jf (lay (gV b r) (bh (gV b r) 2-r.length) r) x=jf (gV b r) x:=by
  intro x hx;have:=(hs.fit.lG x hx).1;exact Ap (by omega) x (.inr (by omega))
 unfold nY;rw [L.rcs,List.map_append,List.map_cons,wY (by omega),←he];unfold bX;rw [List.map_congr_left (fun x hx=>key x (List.mem_of_mem_take hx)),List.map_congr_left (fun x hx=>key x (List.mem_of_mem_drop hx)),List.map_take,List.map_drop]
def jg:List UInt8:=jO (List.replicate 232 0) 2 232
theorem l7:Sound jg∧bX jg=[]∧bh jg 0=0∧bh jg 2=232:=by
 have e0:bh jg 0=0:=by decide
 have e2:bh jg 2=232:=by decide
 have es:aZ jg=[]:=by unfold aZ; rw [e0]; rfl
 exact ⟨⟨by unfold jg; rw [du,List.length_replicate],by omega,by omega,by rw [es]; exact Fit.nil _⟩,by unfold bX; rw [es]; rfl,e0,e2⟩
end Go.Proofs.YtmonobkginiajaaGreat.Sl
namespace Go.Proofs.YtmonobkginiajaaGreat.Sl
open Go.RowKit
theorem or8 (a b:Nat) (ha:a<256) (hb:b<256):bits .or .i64 ((a:Int)*256) (b:Int)=((a*256+b:Nat):Int):=by
 rw [bits_join .i64 32 (by decide) (fun n h0 h1=>IntWalk.i64_in n (by omega)) 8 _ _ (by omega) (by omega) (by omega) (by omega) (by omega) (by omega)];omega
theorem cK (s:ByteArray) (k:Nat) (h:k<s.size):s.data.toList.getD k 0=s[k]:=by
 have:k<s.data.toList.length:=by simpa using h
 simp [List.getD,List.getElem?_eq_getElem this]; rfl
theorem dG (s:ByteArray) (i:Int) (w:World) (h0:0≤i) (h:i+1<s.size) (hs:s.size≤1000000):
  Calls Tryz.prog 210 #[.string s,.int .i64 i] w fun e w'=>e= .returned (.int .i64 (bh s.data.toList i.toNat:Nat))∧Below w.heap.size w w':=by
 obtain ⟨k,rfl⟩:=Int.eq_ofNat_of_zero_le h0;rw [Int.toNat_natCast];have hk:k<s.size:=by omega
 have h:k+1<s.size:=by omega
 have b0:=s[k].toNat_lt;have b1:=s[k+1].toNat_lt;have HV:=xh (show bits .or .i64 ((s[k].toNat:Int)*256) (s[k+1].toNat:Int)=((bh s.data.toList k:Nat):Int) from by
  rw [or8 _ _ (by omega) (by omega)]; unfold bh; rw [cK _ _ hk,cK _ _ h])
 have e1:IntKind.i64.wrap ((k:Int)+1)=(k:Int)+1:=IntWalk.i64_in _ (by omega);have e2:(0:Int)≤(k:Int)+1:=by omega
 have e3:((k:Int)+1).toNat=k+1:=by omega
 have e7:(k:Int)+1<(s.size:Int):=by omega
 have e8:(k:Int)<(s.size:Int):=by omega
 have e4:IntKind.i64.wrap (s[k].toNat:Int)=(s[k].toNat:Int):=IntWalk.i64_in _ (by omega);have e5:IntKind.i64.wrap ((s[k].toNat:Int)*256)=(s[k].toNat:Int)*256:=IntWalk.i64_in _ (by omega);have e6:IntKind.i64.wrap (s[k+1].toNat:Int)=(s[k+1].toNat:Int):=IntWalk.i64_in _ (by omega);go_enter Tryz.func210,Tryz.ntmps210
 go_wp2
 go_quiet (fail);rw [HV.out]
 go_wp2
 go_ret;exact ⟨rfl,cQ (Below.refl _ _) _⟩
def sc (l:List Slot):List Value:=l.flatMap fun x=>[.int .i64 (x.1:Int),.int .i64 (x.2:Int)]
theorem gW (l:List Slot):(sc l).length=2*l.length:=by
 induction l with
 | nil=>rfl
 | cons x l ih=>simp only [sc,List.flatMap_cons] at ih ⊢; simp [ih]; omega
theorem kz (l m:List Slot):sc (l++m)=sc l++sc m:=by simp [sc]
theorem Ll (l:List Slot) (i:Nat) (hi:i<l.length):(sc l)[i*2]?=some (.int .i64 (l[i].1:Int))∧(sc l)[i*2+1]?=some (.int .i64 (l[i].2:Int)):=by
 induction l generalizing i with
 | nil=>simp at hi
 | cons x l ih=>
  have e:sc (x::l)= .int .i64 (x.1:Int):: .int .i64 (x.2:Int)::sc l:=rfl;rw [e]
  cases i with
  | zero=>exact ⟨rfl,rfl⟩
  | succ i=>
   have:=ih i (by simpa using hi);rw [show (i+1)*2=i*2+1+1 by omega,show i*2+1+1+1=(i*2+1)+1+1 by omega];simpa using this
theorem Lm (l:List Slot): ∀v∈sc l,v.oneCell'=true:=by
 intro v hv;simp only [sc,List.mem_flatMap] at hv;obtain ⟨x,_,h⟩:=hv;simp at h
 rcases h with rfl | rfl<;>rfl
theorem qB:(Tryz.prog.info? 271).map (fun i=>(i.zero,i.size,i.bytes))=some (some (.agg #[.int .i64 0,.int .i64 0]),2,16):=by kernel_rfl
theorem nZ (b:List UInt8) (k:Nat) (h:k<bh b 0):(aZ b).take (k+1)=(aZ b).take k++[slot b k]:=by
 rw [List.take_succ_eq_append_getElem (by rw [cf]; exact h)];simp [aZ]
attribute [local go_sem ↓] aX
theorem ic (s:ByteArray) (w:World) (h4:4+4*bh s.data.toList 0≤s.size) (hs:s.size≤1000000):
  Calls Tryz.prog 208 #[.string s] w fun e w'=> ∃v,e= .returned v∧aG w' 271 2 v (bh s.data.toList 0) (sc (aZ s.data.toList))∧Below w.heap.size w w'∧(∀g∈ah v,w.heap.size≤g):=by
 have hn:=ug s.data.toList 0;have HL:=xh (cf s.data.toList);go_enter Tryz.func208,Tryz.ntmps208;go_wp2_with fail;refine (dG s 0 _ (by omega) (by omega) hs).mono ?_;rintro e w1 ⟨rfl,aM⟩;rw [show (0:Int).toNat=0 from rfl];have HS:=xh (show ∀k,k<bh s.data.toList 0→(aZ s.data.toList).take (k+1)=(aZ s.data.toList).take k++[slot s.data.toList k] from fun k hk=>nZ _ k hk)
 have HE:=xh (show (aZ s.data.toList).take (bh s.data.toList 0)=aZ s.data.toList from List.take_of_length_le (by rw [cf]; exact Nat.le_refl _));have HSl:=xh (show ∀k,slot s.data.toList k=(bh s.data.toList (4+4*k),bh s.data.toList (6+4*k)) from fun k=>rfl);generalize hgn:bh s.data.toList 0=n at *;have HN:=xh hgn;clear hgn;go_wp2_with fail
 go_loopw [3,4,5,8] (fun v _ _ i wr=> ∃k:Nat,k≤n∧i= .int .i64 k∧aG wr 271 2 v k (sc ((aZ s.data.toList).take k))∧Below w.heap.size w wr∧Hid (∀g∈ah v,w.heap.size≤g)) (fun _ _ _ i _=>n-(intOf i).toNat)
 case atStart=>exact ⟨0,Nat.zero_le _,rfl,by rw [List.take_zero]; exact aG.nil _ _ _,aM,xh (by simp [ah])⟩
 case round=>
  obtain ⟨k,hk,rfl,S,O,F⟩:=hrel;obtain ⟨A,c,rfl⟩:=aq S
  by_cases h:k<n
  ·have pV:=xh (HS.out k h);go_wp2_with fail;refine (dG s _ _ (by omega) (by omega) hs).mono ?_;rintro e w2 ⟨rfl,bT⟩;have S2:=xh (S.below bT);have O2:=xh (ao O bT);clear bT S O;go_wp2_with fail;refine (dG s _ _ (by omega) (by omega) hs).mono ?_;rintro e w3 ⟨rfl,eG⟩;have S3:=S2.out.below eG;have O3:=xh (ao O2.out eG);clear eG S2 O2;rw [show (4+4*(k:Int)).toNat=4+4*k by omega,show (4+4*(k:Int)+2).toNat=6+4*k by omega]
   obtain ⟨i0,hi,iL,gM,iw⟩:=info_parts qB;obtain ⟨v',w',ea,S',O',F'⟩:=cN (P:=Tryz.prog) (S3.alloc (.cells #[.int .i64 (bh s.data.toList (4+4*k):Nat),.int .i64 (bh s.data.toList (6+4*k):Nat)] 271)) 266 266 i0 (.agg #[.int .i64 0,.int .i64 0]) 16 Tryz.underlying266 hi iL gM iw rfl (by omega)
    ⟨w3.heap.size,0,none⟩ 1 1 [.int .i64 (bh s.data.toList (4+4*k):Nat),.int .i64 (bh s.data.toList (6+4*k):Nat)] rfl (aV (l:=[_,_]) (ax.new _ _ _) 0 _ (by simp)) (by intro u hu; simp at hu; rcases hu with rfl | rfl<;>rfl) (by unfold maxLen; omega) (by omega)
   have e1:sc ((aZ s.data.toList).take k)++[.int .i64 (bh s.data.toList (4+4*k):Nat),.int .i64 (bh s.data.toList (6+4*k):Nat)]=sc ((aZ s.data.toList).take (k+1)):=by
    rw [pV.out,kz,HSl.out]; rfl
   rw [e1] at S';have EA:=ea;have F2:=xh (show ∀g∈ah v',w.heap.size≤g from fun g hg=>(F' g hg).elim (F.out g) (fun h=>Nat.le_trans O3.out.size (by simp at h; omega)));have O2:=xh (O3.out.trans ((((ag.refl (ah (.slice A k c)) w3).alloc (.cells #[.int .i64 (bh s.data.toList (4+4*k):Nat),.int .i64 (bh s.data.toList (6+4*k):Nat)] 271)).trans O').ay O3.out.size F.out));have S2:=xh S';clear S3 F' O' S' e1 pV hi iL gM iw ea
   change dI _ _ _ _ _ _=_ at EA
   obtain ⟨A2,c2,rfl⟩:=aq S2.out;go_wp2_with fail;go_roundw
   case rel=>exact ⟨k+1,by omega,by go_num,S2.out,O2.out,F2⟩
   case measure=>simp [intOf]; omega
  ·have vK:k=n:=by omega
   have H2:=xh vK;have SS:=xh S;clear vK S;go_wp2_with fail;go_ret;refine ⟨_,rfl,?_,O,F.out⟩;have:=SS.out
   cases H2.out
   rw [HE.out] at this;rw [HN.out];exact this
end Go.Proofs.YtmonobkginiajaaGreat.Sl
namespace Go.Proofs.YtmonobkginiajaaGreat.Sl
open Go.RowKit
theorem aG.set1 {w:World} {e:TypeId} {g n cap:Nat} {l:List Value} (S:aG w e 1 (.slice (some ⟨g,0,none⟩) n cap) n l) (k:Nat) (hk:k<n) (x:Value):aG (w.setCell ⟨g,k,none⟩ x) e 1 (.slice (some ⟨g,0,none⟩) n cap) n (l.set k x):=by
 have hl:l.length=n:=by have:=S.1; omega
 rcases S.2 with ⟨h0,_⟩ | ⟨g',Cg,rest,hv,B,hc,hm⟩
 ·cases h0
 ·simp only [Value.slice.injEq,Option.some.injEq,Addr.mk.injEq,and_true,true_and] at hv;obtain ⟨rfl,rfl⟩:=hv;refine ⟨by simp [hl],.inr ⟨g,cap,rest,rfl,?_,by simpa using hc,hm⟩⟩;have:=B.bq k x;rw [List.setIfInBounds_toArray,List.set_append_left _ _ (by omega)] at this;exact this
theorem aG.cell {w:World} {e:TypeId} {g n cap:Nat} {l:List Value} (S:aG w e 1 (.slice (some ⟨g,0,none⟩) n cap) n l) (k:Nat) (hk:k<n) (x:Value) (hx:l[k]?=some x):w.cell? ⟨g,k,none⟩=some x∧w.frozen? ⟨g,k,none⟩=false:=by
 have hl:l.length=n:=by have:=S.1; omega
 rcases S.2 with ⟨h0,_⟩ | ⟨g',Cg,rest,hv,B,hc,hm⟩
 ·cases h0
 ·simp only [Value.slice.injEq,Option.some.injEq,Addr.mk.injEq,and_true,true_and] at hv;obtain ⟨rfl,rfl⟩:=hv;exact ⟨B.ab (by rw [List.getElem?_toArray,List.getElem?_append_left (by omega)]; exact hx),B.frozen k (by simp; omega)⟩
def j5 (w:World) (v:Value) (F:List UInt8):Prop:=aG w 5 1 v F.length (cI F)
theorem j5.form {w:World} {v:Value} {F:List UInt8} (S:j5 w v F) (h:0<F.length): ∃g cap,v= .slice (some ⟨g,0,none⟩) F.length cap∧F.length≤cap:=by
 obtain ⟨g,cap,rest,rfl,B,hc,_⟩:=aG.form S h (by omega);exact ⟨g,cap,rfl,hc⟩
theorem dg:(Tryz.prog.info? 5).map (fun i=>(i.zero,i.size,i.bytes))=some (some (.int .u8 0),1,1):=by kernel_rfl
theorem fX {w:World} {v:Value} {F:List UInt8} (S:j5 w v F) (i m:Int) (y8:0≤i) (hi:i+1<F.length) (hF:F.length≤1000000) (hm0:0≤m) (hm:m<65536):
  Calls Tryz.prog 206 #[v,.int .i64 i,.int .i64 m] w fun e w'=>e= .returned (.tuple #[])∧j5 w' v (jO F i.toNat m.toNat)∧ag (ah v) w w':=by
 obtain ⟨k,rfl⟩:=Int.eq_ofNat_of_zero_le y8;obtain ⟨n,rfl⟩:=Int.eq_ofNat_of_zero_le hm0;obtain ⟨g,cap,rfl,qC⟩:=S.form (by omega);have c0:=(aG.cell S k (by omega) (bv F[k]) (by rw [r8,List.getElem?_eq_getElem (by omega)]; rfl));have c1:=(aG.cell S (k+1) (by omega) (bv F[k+1]) (by rw [r8,List.getElem?_eq_getElem (by omega)]; rfl));obtain ⟨c0,z0⟩:=c0;obtain ⟨c1,z1⟩:=c1
 have HS:=xh (aG.set1 (aG.set1 S k (by omega) (bv (UInt8.ofNat (n / 256)))) (k+1) (by omega) (bv (UInt8.ofNat n)));have HO:=xh (show ag [g] w ((w.setCell ⟨g,k,none⟩ (bv (UInt8.ofNat (n / 256)))).setCell ⟨g,k+1,none⟩ (bv (UInt8.ofNat n))) from ((ag.refl _ _).setCell (by simp) _).setCell (by simp) _);clear S;generalize F[k]=x0 at *;generalize F[k+1]=x1 at *;unfold bv at c0 c1;go_enter Tryz.func206,Tryz.ntmps206
 go_wp2
 have e0:bv (UInt8.ofNat (n / 256))= .int .u8 ((n:Int) / 256):=by
  unfold bv
  congr 1
  rw [UInt8.toNat_ofNat'];omega
 have e1:bv (UInt8.ofNat n)= .int .u8 ((n:Int) % 256):=by
  unfold bv;rfl
 have el:((cI F).set k (bv (UInt8.ofNat (n / 256)))).set (k+1) (bv (UInt8.ofNat n))=cI (jO F k n):=by
  simp [cI,jO]
 have h1:=HS.out;have h2:=HO.out;rw [el] at h1;rw [e0,e1] at h1 h2;clear el e0 e1
 go_end0
 refine ⟨rfl,?_,by simpa [ah] using h2⟩;rw [Int.toNat_natCast,Int.toNat_natCast];unfold j5;rw [du];exact h1
theorem kP (n:Nat) (h1:n≤140737488355328) (w:World):
  (Instr.makeSlice 150 (.int .i64 n) (.int .i64 n)).run Tryz.prog w= .ok (.slice (some ⟨w.heap.size,0,none⟩) n n) (w.alloc (.cells (cI (List.replicate n 0)).toArray 5)):=by
 obtain ⟨i0,hi,iL,gM,iw⟩:=info_parts dg;have h:=run_make (P:=Tryz.prog) w 150 5 i0 (.int .u8 0) Tryz.underlying150 hi iL .i64 .i64 n n (by omega) (Int.le_refl _) (by rw [iw]; omega) (by omega);rw [h,gM];have e:madeCells (Value.int .u8 0).cells (((n:Int).toNat)*1)=(cI (List.replicate n 0)).toArray:=by
  show madeCells #[Value.int .u8 0] (n*1)=_;rw [Nat.mul_one,fm]; simp [cI,bv]
 rw [e];rfl
theorem j5.string {w:World} {v:Value} {F:List UInt8} (S:j5 w v F) (h:0<F.length):(convert 150 9 v).run Tryz.prog w= .ok (.string ⟨F.toArray⟩) w:=by
 obtain ⟨g,cap,rest,rfl,B,_,_⟩:=aG.form S h (by omega);exact bs (P:=Tryz.prog) w 150 9 5 Tryz.underlying150 Tryz.underlying5 Tryz.underlying9 ⟨g,0,none⟩ F.length cap F rfl (aV B 0 (cI F) (by
  intro j u hu;rw [Nat.zero_add,List.getElem?_append_left]
  ·exact hu
  ·exact (List.getElem?_eq_some_iff.1 hu).1))
theorem j5.only {w w':World} {v:Value} {F:List UInt8} {S:List Nat} (B:j5 w v F) (ho:ag S w w') (hd: ∀g∈ah v,g∉S):j5 w' v F:=aG.only B ho hd
theorem j5.below {w w':World} {v:Value} {F:List UInt8} (B:j5 w v F) (ho:Below w.heap.size w w'):j5 w' v F:=aG.below B ho
theorem j5.new (w:World) (F:List UInt8) (h:F.length≤maxLen):j5 (w.alloc (.cells (cI F).toArray 5)) (.slice (some ⟨w.heap.size,0,none⟩) F.length F.length) F:=
 ⟨by simp,.inr ⟨w.heap.size,F.length,[],rfl,by rw [List.append_nil]; exact ax.new _ _ _,by simp,h⟩⟩
theorem mI (w:World):
  Calls Tryz.prog 163 #[] w fun e w'=>e= .returned (.string ⟨jg.toArray⟩)∧Below w.heap.size w w':=by
 have hmk:Hid (∀w':World,(Instr.makeSlice 150 (.int .i64 232) (.int .i64 232)).run Tryz.prog w'= .ok (.slice (some ⟨w'.heap.size,0,none⟩) 232 232) (w'.alloc (.cells (cI (List.replicate 232 0)).toArray 5))):=xh (fun w':World=>kP 232 (by omega) w');have B0:=xh (j5.new w (List.replicate 232 0) (by unfold maxLen; rw [List.length_replicate]; omega));have O0:=xh ((Below.refl w.heap.size w).alloc (Nat.le_refl _) (.cells (cI (List.replicate 232 0)).toArray 5))
 have hl:(List.replicate 232 (0:UInt8)).length=232:=List.length_replicate;have e1:jg=jO (List.replicate 232 0) 2 232:=rfl;rw [e1];clear e1;generalize List.replicate 232 (0:UInt8)=Z at *;rw [hl] at B0;have HL:=xh hl;clear hl;have hm:=hmk.out;clear hmk;go_enter Tryz.func163,Tryz.ntmps163;go_wp2_with fail;generalize w.alloc (.cells (cI Z).toArray 5)=W at *;clear hm;refine (fX B0.out 2 232 (by omega) (by rw [HL.out]; omega) (by rw [HL.out]; omega) (by omega) (by omega)).mono ?_
 rintro e w1 ⟨rfl,B1,o1⟩;have KS:=xh (B1.string (by rw [du,HL.out]; omega));have O1:=xh (O0.out.trans (o1.ay O0.out.size (by simp [ah])));clear B1 o1;go_wp2_with fail;rw [KS.out];go_wp2_with fail;go_ret;exact ⟨rfl,O1.out⟩
end Go.Proofs.YtmonobkginiajaaGreat.Sl
