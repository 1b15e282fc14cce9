/- packed. -/
import Derived.Test.YtmonobkginiajaaGreatQ16
import Derived.Deep.RegionHeld3
import Derived.Deep.DrawnRows
set_option linter.all false
set_option maxRecDepth 100000
set_option maxHeartbeats 8000000
namespace Go.Proofs.YtmonobkginiajaaGreat.Sl
open Go.RowKit
theorem Ln {a b:Bool} (h:a=b):Ending.returned (.bool a)= .returned (.bool b):=by rw [h]
theorem G3 (x y:Slot) (w:World) (hx:x.1+x.2≤1000000) (hy:y.1+y.2≤1000000):
  Calls Tryz.prog 227 #[.agg #[.int .i64 x.1,.int .i64 x.2],.agg #[.int .i64 y.1,.int .i64 y.2]] w fun e w'=>e= .returned (.bool (apart x y))∧Below w.heap.size w w':=by
 obtain ⟨a,b⟩:=x;obtain ⟨c,d⟩:=y;have O:=xh (((Below.refl w.heap.size w).alloc (Nat.le_refl _) (.cells #[.int .i64 a,.int .i64 b] 271)).alloc (by simp) (.cells #[.int .i64 c,.int .i64 d] 271));simp only at hx hy;have HA:=xh (show apart (a,b) (c,d)=(decide (b=0) || (decide (d=0) || (decide (a+b≤c) || decide (c+d≤a)))) from rfl);go_enter Tryz.func227,Tryz.ntmps227
 go_wp2
 all_goals go_ret
 all_goals
  refine ⟨Ln ?_,((Below.refl _ _).alloc (Nat.le_refl _) _).alloc (by simp) _⟩;rw [HA.out,Bool.eq_iff_iff];simp
  try omega
theorem qD {b:List UInt8} (hl:b.length=232) (h: ¬Sound b):bw b=14:=by
 unfold bw;rw [if_pos hl,if_neg];rw [nX];exact h
theorem DI {b:List UInt8} (hl:b.length=232) {k:Nat} (hk:k<bh b 0) (h: ¬(bh b 2≤(slot b k).1∧(slot b k).1+(slot b k).2≤232)):bw b=14:=
 qD hl fun S=>h (S.fit.lG _ (List.mem_of_getElem? (wW b k hk)))
theorem Aq {b:List UInt8} (hl:b.length=232) {k j:Nat} (hk:k<bh b 0) (hj:j<k) (h:apart (slot b k) (slot b j)=false):bw b=14:=
 qD hl fun S=>by
  have hp:=S.fit.apart;rw [List.pairwise_iff_getElem] at hp;have h1:=hp j k (by rw [cf]; omega) (by rw [cf]; omega) hj;simp only [aZ,List.getElem_map,List.getElem_range] at h1;rw [k8,h] at h1
  cases h1
theorem DJ {b:List UInt8} (hl:b.length=232) (hh:bh b 2≤232) (h4:4+4*bh b 0≤bh b 2) (hf:Fit (bh b 2) (aZ b)):bw b=0:=(dj b).2 ⟨hl,hh,h4,hf⟩
theorem Lo {b:List UInt8} {heap k:Nat} (hk:k<bh b 0) (hf:Fit heap ((aZ b).take k)) (hx:heap≤(slot b k).1∧(slot b k).1+(slot b k).2≤232) (ha: ∀j,j<k→apart (slot b k) (slot b j)=true):Fit heap ((aZ b).take (k+1)):=by
 rw [nZ b k hk,Fit.snoc];refine ⟨hf,hx,fun y hy=>?_⟩;obtain ⟨j,hj,rfl⟩:=List.getElem_of_mem hy;have hj2:j<k:=by simp at hj; omega
 simp only [aZ,List.getElem_take,List.getElem_map,List.getElem_range];exact ha j hj2
theorem k9 {w:World} {g n cap:Nat} {l:List Slot} (S:aG w 271 2 (.slice (some ⟨g,0,none⟩) n cap) n (sc l)) (k:Nat) (hk:k<l.length):w.cell? ⟨g,k*2,none⟩=some (.int .i64 l[k].1)∧w.cell? ⟨g,k*2+1,none⟩=some (.int .i64 l[k].2):=by
 obtain ⟨rest,B,_⟩:=S.oM;obtain ⟨h0,h1⟩:=Ll l k hk;have hlen:=gW l;exact ⟨B.ab (by rw [List.getElem?_toArray,List.getElem?_append_left (by omega)]; exact h0),B.ab (by rw [List.getElem?_toArray,List.getElem?_append_left (by omega)]; exact h1)⟩
theorem iJ (b:List UInt8) (k:Nat) (h:k<(aZ b).length):(aZ b)[k]=slot b k:=by simp [aZ]
theorem DK (s:ByteArray) (w:World) (hl:s.size=232) (hh:bh s.data.toList 2≤232) (h4:4+4*bh s.data.toList 0≤bh s.data.toList 2):
  Calls Tryz.prog 207 #[.string s] w fun e w'=>e= .returned (.int .i64 (bw s.data.toList))∧Below w.heap.size w w':=by
 have hL:s.data.toList.length=232:=by simpa using hl
 have HLI:=xh (fun (k:Nat) (hk:k<bh s.data.toList 0) (h: ¬(bh s.data.toList 2≤(slot s.data.toList k).1∧(slot s.data.toList k).1+(slot s.data.toList k).2≤232))=>DI hL hk h);have HAP:=xh (fun (k j:Nat) (hk:k<bh s.data.toList 0) (hj:j<k) (h:apart (slot s.data.toList k) (slot s.data.toList j)=false)=>Aq hL hk hj h);have BV:=xh (fun (hf:Fit (bh s.data.toList 2) (aZ s.data.toList))=>DJ hL hh h4 hf)
 have HST:=xh (fun (k:Nat) (hk:k<bh s.data.toList 0) (hf:Fit (bh s.data.toList 2) ((aZ s.data.toList).take k)) (hx:bh s.data.toList 2≤(slot s.data.toList k).1∧(slot s.data.toList k).1+(slot s.data.toList k).2≤232) (ha: ∀j,j<k→apart (slot s.data.toList k) (slot s.data.toList j)=true)=>Lo hk hf hx ha);have HAL:=xh (show (aZ s.data.toList).take (bh s.data.toList 0)=aZ s.data.toList from List.take_of_length_le (by rw [cf]; exact Nat.le_refl _))
 have HN:=xh (cf s.data.toList);have Ff:=fun k=>ug s.data.toList k;have vB: ∀k,(slot s.data.toList k).1<65536∧(slot s.data.toList k).2<65536:=fun k=>⟨Ff _,Ff _⟩;have HSL:=xh vB;have KL:=xh (fun w'=>ic s w' (by omega) (by omega));clear Ff vB hL;have hs1:s.size≤232:=by omega
 have hs2:232≤s.size:=by omega
 have hsb:((s.size:Int)==232)=true:=by simp; omega
 have HHL:=xh hl;clear hl;have K0:=xh (fun w'=>dG s 0 w' (by omega) (by omega) (by omega));have K2:=xh (fun w'=>dG s 2 w' (by omega) (by omega) (by omega));simp only [show (0:Int).toNat=0 from rfl,show (2:Int).toNat=2 from rfl] at K0 K2;generalize hq:bw s.data.toList=q at *;have HQ:=xh hq;clear hq;generalize bh s.data.toList 0=n at *;generalize bh s.data.toList 2=heap at *;go_enter Tryz.func207,Tryz.ntmps207;go_wp2_with fail;refine (K0.out _).mono ?_
 rintro e w1 ⟨rfl,aM⟩;go_wp2_with fail;refine (K2.out _).mono ?_;rintro e w2 ⟨rfl,bT⟩;go_wp2_with fail;refine (KL.out _).mono ?_;rintro e w3 ⟨v,rfl,S,eG,fr⟩;obtain ⟨A,c,rfl⟩:=aq S;have S:=xh S;have O3:=xh (ao (ao aM bT) eG);clear aM bT eG fr K0 K2 KL;go_wp2_with fail
 go_loopw [31] (fun iv wr=> ∃k:Nat,k≤n∧iv= .int .i64 k∧aG wr 271 2 (.slice A n c) n (sc (aZ s.data.toList))∧Below w.heap.size w wr∧Hid (Fit heap ((aZ s.data.toList).take k))) (fun iv _=>n-(intOf iv).toNat)
 case atStart=>exact ⟨0,Nat.zero_le _,rfl,S.out,O3.out,xh (by rw [List.take_zero]; exact Fit.nil _)⟩
 case round=>
  obtain ⟨k,hk,rfl,S,O,F⟩:=hrel
  by_cases h:k<n
  ·obtain ⟨g,cap,rest,hv,-,qC,-⟩:=S.form (by omega) (by omega);simp only [Value.slice.injEq,true_and] at hv;obtain ⟨rfl,rfl⟩:=hv;have fi:=k9 S k (by rw [HN.out]; exact h);rw [iJ] at fi;obtain ⟨c0,c1⟩:=fi;have b0:=HSL.out k;have LI:=xh (HLI.out k h);have AP:=xh (fun j=>HAP.out k j h);have ST:=xh (HST.out k h F.out);have SS:=xh S;have OO:=xh O;clear S O;generalize slot s.data.toList k=x at *;obtain ⟨x0,x1⟩:=x;simp only at b0 c0 c1
   have B8:=xh (ax.new wr 271 #[.int .i64 x0,.int .i64 x1]);have S8:=xh (SS.out.alloc (.cells #[.int .i64 x0,.int .i64 x1] 271));have O8:=xh (OO.out.alloc OO.out.size (.cells #[.int .i64 x0,.int .i64 x1] 271));have hx:heap≤x0∧x0+x1≤232∨(heap≤x0∧232<x0+x1)∨x0<heap:=by omega
   rcases hx with ⟨g1,g2⟩ | ⟨g1,g2⟩ | g1
   ·go_wp2_with fail;generalize wr.alloc (.cells #[.int .i64 x0,.int .i64 x1] 271)=W at *;generalize wr.heap.size=z at *
    go_loopw [52] (fun jv w4=> ∃j:Nat,j≤k∧jv= .int .i64 j∧aG w4 271 2 (.slice (some ⟨g,0,none⟩) n c) n (sc (aZ s.data.toList))∧ax w4 z 271 #[.int .i64 x0,.int .i64 x1]∧Below w.heap.size w w4∧Hid (∀i,i<j→apart (x0,x1) (slot s.data.toList i)=true)) (fun jv _=>k-(intOf jv).toNat)
    case atStart=>exact ⟨0,Nat.zero_le _,rfl,S8.out,B8.out,O8.out,xh fun i hi=>absurd hi (Nat.not_lt_zero i)⟩
    case round=>
     obtain ⟨j,hj,rfl,S9,B9,O9,HJ⟩:=hrel
     by_cases hjk:j<k
     ·have fi:=k9 S9 j (by rw [HN.out]; omega);rw [iJ] at fi;obtain ⟨d0,d1⟩:=fi;have b2:=HSL.out j;have hn1:=AP.out j hjk;have HJS:=xh (show apart (x0,x1) (slot s.data.toList j)=true→ ∀i,i<j+1→apart (x0,x1) (slot s.data.toList i)=true from fun e i hi=>by
       rcases Nat.lt_or_ge i j with h | h
       ·exact HJ.out i h
       ·obtain rfl:i=j:=by omega
        exact e)
      have HN1:=xh hn1;have z0:=B9.ab (i:=0) rfl;have z1:=B9.ab (i:=1) rfl;have zl:=B9.lt;have SS9:=xh S9;have BB9:=xh B9;have OO9:=xh O9;clear S9 B9 O9 hn1 HJ;generalize slot s.data.toList j=y at *;obtain ⟨y0,y1⟩:=y;simp only at b2 d0 d1;have KA:=xh (fun w'=>G3 (x0,x1) (y0,y1) w' (by show x0+x1≤1000000; omega) (by show y0+y1≤1000000; omega));simp only at KA;go_wp2_with fail;refine (KA.out _).mono ?_;rintro e w5 ⟨rfl,ko⟩
      have ko:=xh (((Below.refl wr.heap.size wr).alloc (Nat.le_refl _) (.cells #[.int .i64 y0,.int .i64 y1] 271)).trans (ko.mono (by simp)))
      cases ha:apart (x0,x1) (y0,y1)
      ·have hq:=HN1.out ha;go_wp2_with fail;go_ret;exact ⟨by first | rfl | (rw [hq]; rfl),ao OO9.out ko.out⟩
      ·have HA:=xh ha;clear ha;go_wp2_with fail;go_roundw
       case rel=>exact ⟨j+1,by omega,by go_num,SS9.out.below ko.out,BB9.out.below ko.out BB9.out.lt,ao OO9.out ko.out,xh (HJS.out HA.out)⟩
       case measure=>simp [intOf]; omega
     ·have SS9:=xh S9;have OO9:=xh O9;have hjk2:=xh (show j=k by omega);clear S9 B9 O9;go_wp2_with fail;go_roundw
      case rel=>exact ⟨k+1,by omega,by go_num,SS9.out,OO9.out,xh (ST.out ⟨g1,g2⟩ (hjk2.out▸HJ.out))⟩
      case measure=>simp [intOf]; omega
   ·have hq:=LI.out (by omega);go_wp2_with fail;go_ret;exact ⟨by first | rfl | (rw [hq]; rfl),O8.out⟩
   ·have hq:=LI.out (by omega);go_wp2_with fail;go_ret;exact ⟨by first | rfl | (rw [hq]; rfl),O8.out⟩
  ·have vK:k=n:=by omega
   have H2:=xh vK;have OO:=xh O;have SS:=xh S;clear vK S O;go_wp2_with fail;go_ret;refine ⟨?_,OO.out⟩;have hf:=F.out;rw [H2.out,HAL.out] at hf;rw [BV.out hf];rfl
theorem mR (s:ByteArray) (w:World) (hs:s.size≤1000000):
  Calls Tryz.prog 207 #[.string s] w fun e w'=>e= .returned (.int .i64 (bw s.data.toList))∧Below w.heap.size w w':=by
 by_cases hl:s.size=232
 ·by_cases hg:bh s.data.toList 2≤232∧4+4*bh s.data.toList 0≤bh s.data.toList 2
  ·exact DK s w hl hg.1 hg.2
  ·have hL:s.data.toList.length=232:=by simpa using hl
   have e1:bw s.data.toList=14:=qD hL fun S=>hg ⟨S.heap,S.head⟩;rw [e1];have K0:=xh (fun w'=>dG s 0 w' (by omega) (by omega) (by omega));have K2:=xh (fun w'=>dG s 2 w' (by omega) (by omega) (by omega));simp only [show (0:Int).toNat=0 from rfl,show (2:Int).toNat=2 from rfl] at K0 K2;have b0:=ug s.data.toList 0;generalize bh s.data.toList 0=n at *;generalize bh s.data.toList 2=heap at *;have hsb:((s.size:Int)==232)=true:=by simp; omega
   have hx:232<heap∨(heap≤232∧heap<4+4*n):=by omega
   clear hl hg e1 hL
   rcases hx with h1 | ⟨h1,h2⟩
   all_goals
    go_enter Tryz.func207,Tryz.ntmps207;go_wp2_with fail;refine (K0.out _).mono ?_;rintro e w1 ⟨rfl,aM⟩;go_wp2_with fail;refine (K2.out _).mono ?_;rintro e w2 ⟨rfl,bT⟩;have O:=xh (ao aM bT);clear aM bT;go_wp2_with fail;go_ret;exact ⟨rfl,O.out⟩
 ·have e1:bw s.data.toList=6:=by unfold bw; rw [if_neg (by simpa using hl)]
  rw [e1];have hsb:((s.size:Int)==232)=false:=by simp; omega
  clear e1 hl;go_enter Tryz.func207,Tryz.ntmps207;go_wp2_with fail;go_ret;exact ⟨rfl,Below.refl _ _⟩
end Go.Proofs.YtmonobkginiajaaGreat.Sl
namespace Go.Proofs.YtmonobkginiajaaGreat.Sl
open Go.RowKit
def jP (l:List Slot) (k:Nat):Int:=228-((((l.take k).map fun x=>4+x.2).sum:Nat):Int)
theorem Ar (l:List Slot) (k:Nat) (h:k<l.length):jP l (k+1)=jP l k-(4+(l[k].2:Int)):=by
 unfold jP;rw [List.take_succ_eq_append_getElem h,List.map_append,List.sum_append];simp; omega
theorem DL (b:List UInt8):jP (aZ b) (aZ b).length=fD b:=by unfold jP fD; rw [List.take_length]
def pE (b:List UInt8):Int:=if bw b=0 then fD b else 0
theorem As (s:ByteArray) (w:World) (hs:s.size≤1000000):
  Calls Tryz.prog 209 #[.string s] w fun e w'=>e= .returned (.int .i64 (pE s.data.toList))∧Below w.heap.size w w':=by
 have KC:=xh (mR s w hs)
 by_cases h:bw s.data.toList=0
 ·have e1:pE s.data.toList=fD s.data.toList:=by unfold pE; rw [if_pos h]
  have hS:=(dj _).1 h;have JF:s.size=232:=by have:=hS.len; simpa using this
  have h4:=hS.head;have h5:=hS.heap;rw [e1];rw [h] at KC;have KL:=xh (fun w'=>ic s w' (by omega) hs);have HN:=xh (cf s.data.toList);have HA:=xh (DL s.data.toList);have HX:=xh (show ∀k,(jP (aZ s.data.toList) k≤228∧ ∀h:k<(aZ s.data.toList).length,(aZ s.data.toList)[k].2<65536) from fun k=>⟨by unfold jP; omega,fun h=>by rw [iJ]; exact ug _ _⟩)
  have HLO:=xh (show ∀k,k≤bh s.data.toList 0→ -1000000≤jP (aZ s.data.toList) k from fun k hk=>by
   have hsum:=wX _ _ hS.fit hS.heap;have:((((aZ s.data.toList).take k).map fun x=>4+x.2).sum)≤4*(aZ s.data.toList).length+qA (aZ s.data.toList):=by
    generalize aZ s.data.toList=l;unfold qA
    induction l generalizing k with
    | nil=>simp
    | cons x l ih=>
     cases k with
     | zero=>simp
     | succ k=>
      have:=ih k;simp only [List.take_succ_cons,List.map_cons,List.sum_cons,List.length_cons];omega
   rw [cf] at this;unfold jP; omega)
  clear e1 h hS;generalize fD s.data.toList=q at *;generalize bh s.data.toList 0=n at *;go_enter Tryz.func209,Tryz.ntmps209;go_wp2_with fail;refine KC.out.mono ?_;rintro e w1 ⟨rfl,aM⟩;have aM:=xh aM;go_wp2_with fail;refine (KL.out _).mono ?_;rintro e w3 ⟨v,rfl,S,eG,fr⟩;obtain ⟨A,c,rfl⟩:=aq S;have S:=xh S;have O3:=xh (ao aM.out eG);clear eG fr KL aM;go_wp2_with fail
  go_loopw [3,12] (fun rv iv wr=> ∃k:Nat,k≤n∧iv= .int .i64 k∧rv= .int .i64 (jP (aZ s.data.toList) k)∧aG wr 271 2 (.slice A n c) n (sc (aZ s.data.toList))∧Below w.heap.size w wr) (fun _ iv _=>n-(intOf iv).toNat)
  case atStart=>exact ⟨0,Nat.zero_le _,rfl,rfl,S.out,O3.out⟩
  case round=>
   obtain ⟨k,hk,rfl,rfl,S,O⟩:=hrel;have hr1:=(HX.out k).1;have vS:=HLO.out k hk
   by_cases h:k<n
   ·obtain ⟨g,cap,rest,hv,-,qC,-⟩:=S.form (by omega) (by omega);simp only [Value.slice.injEq,true_and] at hv;obtain ⟨rfl,rfl⟩:=hv;have gw:k<(aZ s.data.toList).length:=by rw [HN.out]; exact h
    obtain ⟨c0,c1⟩:=k9 S k gw;have hb:=(HX.out k).2 gw;have HST:=xh (Ar _ k gw);generalize (aZ s.data.toList)[k]=x at *;obtain ⟨x0,x1⟩:=x;simp only at hb c0 c1 HST;have S8:=xh (S.alloc (.cells #[.int .i64 x0,.int .i64 x1] 271));have O8:=xh (O.alloc O.size (.cells #[.int .i64 x0,.int .i64 x1] 271));clear S O gw;generalize jP (aZ s.data.toList) k=r at *;go_wp2_with fail;go_roundw
    case rel=>exact ⟨k+1,by omega,by go_num,by rw [HST.out],S8.out,O8.out⟩
    case measure=>simp [intOf]; omega
   ·have vK:=xh (show k=n by omega);have OO:=xh O;clear S O;go_wp2_with fail;go_ret;refine ⟨?_,OO.out⟩;rw [←HA.out,HN.out,←vK.out];rfl
 ·have e1:pE s.data.toList=0:=by unfold pE; rw [if_neg h]
  have hb:(bw s.data.toList==0)=false:=by simpa using h
  rw [e1];clear e1 h;generalize bw s.data.toList=q at *;go_enter Tryz.func209,Tryz.ntmps209;go_wp2_with fail;refine KC.out.mono ?_;rintro e w1 ⟨rfl,aM⟩;have aM:=xh aM;go_wp2_with fail;go_ret;exact ⟨rfl,aM.out⟩
theorem lj (s:ByteArray) (a b:Nat):s.extract a (a+b)=⟨((s.data.toList.drop a).take b).toArray⟩:=by
 apply ByteArray.ext;apply Array.toList_inj.1;rw [ByteArray.data_extract,Array.toList_extract,List.extract_eq_take_drop];simp
theorem DM (s:ByteArray) (x:Slot) (w:World) (hx:x.1+x.2≤s.size) (hs:s.size≤1000000):
  Calls Tryz.prog 215 #[.string s,.agg #[.int .i64 x.1,.int .i64 x.2]] w fun e w'=>e= .returned (.string ⟨(jf s.data.toList x).toArray⟩)∧Below w.heap.size w w':=by
 obtain ⟨a,b⟩:=x;simp only at hx;have HE:=xh (lj s a b);go_enter Tryz.func215,Tryz.ntmps215
 go_wp2
 go_ret;refine ⟨?_,(Below.refl _ _).alloc (Nat.le_refl _) _⟩;show Ending.returned (.string (s.extract a (a+b)))=_;rw [HE.out]; rfl
def cO (b:List UInt8) (i:Int):List UInt8×Int:=if bw b=0 then (if 0≤i∧i<(bh b 0:Int) then (jf b (slot b i.toNat),0) else ([],3)) else ([],bw b)
end Go.Proofs.YtmonobkginiajaaGreat.Sl
namespace Go.Proofs.YtmonobkginiajaaGreat.Sl
open Go.RowKit
attribute [local go_sem ↓] aX
theorem qE {w:World} {e:TypeId} {size n:Nat} {v:Value} {l:List Value} (h:aG w e size v n l): ∀g∈ah v,∃cs,ax w g e cs:=by
 rcases h.2 with ⟨rfl,_⟩ | ⟨g,cap,rest,rfl,B,_⟩
 ·simp [ah]
 ·intro x hx; simp [ah] at hx; subst hx; exact ⟨_,B⟩
theorem cv {w:World} {e e':TypeId} {size size' n n':Nat} {v v':Value} {l l':List Value} (h:aG w e size v n l) (h':aG w e' size' v' n' l') (eg:e≠e'): ∀g∈ah v,g∉ah v':=by
 intro g hg hg';obtain ⟨_,B⟩:=qE h g hg;obtain ⟨_,B'⟩:=qE h' g hg';exact B.jF B' eg rfl
def strs (l:List (List UInt8)):List Value:=l.map fun r=> .string ⟨r.toArray⟩
theorem xb (l:List (List UInt8)) (r:List UInt8):strs l++[.string ⟨r.toArray⟩]=strs (l++[r]):=by simp [strs]
@[simp] theorem rD (l:List (List UInt8)):(strs l).length=l.length:=by simp [strs]
theorem rE:(Tryz.prog.info? 9).map (fun i=>(i.zero,i.size,i.bytes))=some (some (.string .empty),1,16):=by kernel_rfl
theorem qF (b:List UInt8) (k:Nat) (h:k<bh b 0):(bX b).take (k+1)=(bX b).take k++[jf b (slot b k)]:=by
 unfold bX;rw [←List.map_take,nZ b k h,List.map_append,List.map_take]; rfl
def jn (s:ByteArray) (w:World) (e:Ending) (w':World):Prop:=
 ∃v,e= .returned (.tuple #[v,.int .i64 (bw s.data.toList)])∧Below w.heap.size w w'∧(∀g∈ah v,w.heap.size≤g)∧
  ((bw s.data.toList=0∧aG w' 9 1 v (bh s.data.toList 0) (strs (bX s.data.toList)))∨(bw s.data.toList≠0∧v= .slice none 0 0))
theorem j8 (s:ByteArray) (w:World) (hs:s.size≤1000000):
  Calls Tryz.prog 169 #[.string s] w (jn s w):=by
 have KC:=xh (mR s w hs)
 by_cases h:bw s.data.toList=0
 ·have hS:=(dj _).1 h;have JF:s.size=232:=by have:=hS.len; simpa using this
  have h4:=hS.head;have h5:=hS.heap;rw [h] at KC;have HC:=xh h;have KL:=xh (fun w'=>ic s w' (by omega) hs);have HN:=xh (cf s.data.toList);have HG:=xh (iJ s.data.toList);have HT:=xh (qF s.data.toList);have HF:=xh (fun k (hk:k<bh s.data.toList 0)=>hS.fit.lG _ (List.mem_of_getElem? (wW s.data.toList k hk)))
  have HA:=xh (show (bX s.data.toList).take (bh s.data.toList 0)=bX s.data.toList from List.take_of_length_le (by rw [bY]; exact Nat.le_refl _));clear hS h;generalize hn:bh s.data.toList 0=n at *;have HN0:=xh hn;clear hn;go_enter Tryz.func169,Tryz.ntmps169;go_wp2_with fail;refine KC.out.mono ?_;rintro e w1 ⟨rfl,aM⟩;have aM:=xh aM;go_wp2_with fail;refine (KL.out _).mono ?_;rintro e w3 ⟨v,rfl,S,eG,fr⟩;obtain ⟨A,c,rfl⟩:=aq S;have S:=xh S
  have O3:=xh (ao aM.out eG);have FR:=xh (show ∀x∈ah (.slice A n c),w.heap.size≤x from fun x hx=>Nat.le_trans aM.out.size (fr x hx));clear eG fr KL aM;go_wp2_with fail
  go_loopw [5,16] (fun v iv wr=> ∃k:Nat,k≤n∧iv= .int .i64 k∧aG wr 9 1 v k (strs ((bX s.data.toList).take k))∧aG wr 271 2 (.slice A n c) n (sc (aZ s.data.toList))∧Below w.heap.size w wr∧Hid (∀g∈ah v,w.heap.size≤g)) (fun _ iv _=>n-(intOf iv).toNat)
  case atStart=>exact ⟨0,Nat.zero_le _,rfl,by rw [List.take_zero]; exact aG.nil _ _ _,S.out,O3.out,xh (by simp [ah])⟩
  case round=>
   obtain ⟨k,hk,rfl,T,S,O,F⟩:=hrel;obtain ⟨TA,tc,rfl⟩:=aq T
   by_cases h:k<n
   ·obtain ⟨g,cap,rest,hv,-,qC,-⟩:=S.form (by omega) (by omega);simp only [Value.slice.injEq,true_and] at hv;obtain ⟨rfl,rfl⟩:=hv;have gw:k<(aZ s.data.toList).length:=by rw [HN.out]; exact h
    obtain ⟨c0,c1⟩:=k9 S k gw;rw [HG.out k gw] at c0 c1;have hf:=HF.out k h;have KR:=xh (fun w'=>DM s (slot s.data.toList k) w' (by omega) hs);have HTk:=xh (HT.out k (HN0.out▸h));generalize slot s.data.toList k=x at *;obtain ⟨x0,x1⟩:=x;simp only at hf c0 c1 KR;have O8:=xh (((Below.refl wr.heap.size wr).alloc (Nat.le_refl _) (.cells #[.int .i64 x0,.int .i64 x1] 271)));have OO:=xh O;have SS:=xh S;have TT:=xh T;clear S T O;go_wp2_with fail
    refine (KR.out _).mono ?_;rintro e w4 ⟨rfl,fM⟩;have fM:=ao O8.out fM;have T4:=TT.out.below fM;have S4:=SS.out.below fM;have O4:=xh (ao OO.out fM);generalize jf s.data.toList (x0,x1)=r at *;obtain ⟨v',w5,ea,T5,o5,F5⟩:=cd (P:=Tryz.prog) T4 123 123 (.string .empty) 16 Tryz.underlying123 rE rfl (.string ⟨r.toArray⟩) rfl (by unfold maxLen; omega) (by omega);rw [xb,←HTk.out] at T5;have S5:=xh (S4.only o5 (cv S4 T4 (by decide)))
    have F6:=xh (show ∀g∈ah v',w.heap.size≤g from fun g hg=>(F5 g hg).elim (F.out g) (fun h=>Nat.le_trans O4.out.size h));have O5:=xh (O4.out.trans (o5.ay O4.out.size F.out));obtain ⟨VA,vc,rfl⟩:=aq T5;have T5:=xh T5;clear fM T4 S4 o5 F5 SS TT OO;go_wp2_with fail;go_roundw
    case rel=>exact ⟨k+1,by omega,by go_num,T5.out,S5.out,O5.out,F6⟩
    case measure=>simp [intOf]; omega
   ·have vK:=xh (show k=n by omega);have OO:=xh O;have TT:=xh T;clear S O T;go_wp2_with fail;go_ret2;refine ⟨_,by rw [HC.out]; rfl,OO.out,F.out,.inl ⟨HC.out,?_⟩⟩;have h1:=TT.out
    cases vK.out
    rw [HA.out] at h1;rw [HN0.out];exact h1
 ·have HC:=xh h;have hb:(bw s.data.toList==0)=false:=by simpa using h
  clear h;generalize hq:bw s.data.toList=q at *;have HQ:=xh hq;clear hq;go_enter Tryz.func169,Tryz.ntmps169;go_wp2_with fail;refine KC.out.mono ?_;rintro e w1 ⟨rfl,aM⟩;have aM:=xh aM;go_wp2_with fail;go_ret2;exact ⟨_,by rw [HQ.out]; rfl,aM.out,by simp [ah],.inr ⟨by rw [HQ.out]; exact HC.out,rfl⟩⟩
end Go.Proofs.YtmonobkginiajaaGreat.Sl
namespace Go.Proofs.YtmonobkginiajaaGreat.Sl
open Go.RowKit
def n7 (w:World) (v:Value) (l:List Slot):Prop:=
 ∃A c,v= .slice A l.length c∧(0<l.length→ ∃g cs,A=some ⟨g,0,none⟩∧ax w g 271 cs∧ ∀(j:Nat) (u:Value),(sc l)[j]?=some u→cs[j]?=some u)
theorem n7.of {w:World} {v:Value} {n:Nat} {l:List Slot} (S:aG w 271 2 v n (sc l)):n7 w v l:=by
 have hl:=S.1;rw [gW] at hl;obtain rfl:n=l.length:=by omega
 obtain ⟨A,c,rfl⟩:=aq S;refine ⟨A,c,rfl,fun h=>?_⟩;obtain ⟨g,cap,rest,hv,B,_,_⟩:=S.form h (by omega);simp only [Value.slice.injEq,true_and] at hv;obtain ⟨rfl,rfl⟩:=hv;exact ⟨g,_,rfl,B,fun j u hu=>by rw [List.getElem?_toArray,List.getElem?_append_left (List.getElem?_eq_some_iff.1 hu).1]; exact hu⟩
theorem n7.only {w w':World} {v:Value} {l:List Slot} {S:List Nat} (h:n7 w v l) (ho:ag S w w') (hd: ∀g cs,ax w g 271 cs→g∉S):n7 w' v l:=by
 obtain ⟨A,c,rfl,h⟩:=h;refine ⟨A,c,rfl,fun hl=>?_⟩;obtain ⟨g,cs,rfl,B,hc⟩:=h hl;exact ⟨g,cs,rfl,B.only ho (hd g cs B),hc⟩
theorem n7.below {w w':World} {v:Value} {l:List Slot} (h:n7 w v l) (hb:Below w.heap.size w w'):n7 w' v l:=h.only (S:=[]) (.ak hb) (by simp)
theorem G4 {w:World} {v:Value} {F:List UInt8} (B:j5 w v F): ∀g cs,ax w g 271 cs→g∉ah v:=by
 intro g cs hg hm;obtain ⟨_,B'⟩:=qE B g hm;exact hg.jF B' (by decide) rfl
theorem n7.cells {w:World} {A:Option Addr} {n c:Nat} {l:List Slot} (h:n7 w (.slice A n c) l) (k:Nat) (hk:k<l.length): ∃g,A=some ⟨g,0,none⟩∧w.cell? ⟨g,k*2,none⟩=some (.int .i64 l[k].1)∧w.cell? ⟨g,k*2+1,none⟩=some (.int .i64 l[k].2):=by
 obtain ⟨A',c',hv,h⟩:=h;simp only [Value.slice.injEq] at hv;obtain ⟨rfl,rfl,rfl⟩:=hv;obtain ⟨g,cs,rfl,B,hc⟩:=h (by omega);obtain ⟨h0,h1⟩:=Ll l k hk;exact ⟨g,rfl,B.ab (hc _ _ h0),B.ab (hc _ _ h1)⟩
theorem um {w:World} {vb vl:Value} {F:List UInt8} {l:List Slot} (B:j5 w vb F) (S:n7 w vl l) (heap:Int) (hF:F.length=232) (hl:4+4*l.length≤232) (hh0:0≤heap) (hh:heap<65536) (hx: ∀x∈l,x.1<65536∧x.2<65536):
  Calls Tryz.prog 212 #[vb,vl,.int .i64 heap] w fun e w'=>e= .returned (.string ⟨(iu F l heap.toNat).toArray⟩)∧ag (ah vb) w w':=by
 obtain ⟨h,rfl⟩:=Int.eq_ofNat_of_zero_le hh0;rw [Int.toNat_natCast];obtain ⟨A,c,rfl,-⟩:=id S;have SS:=xh S;have Gm:=xh (iI F l h);have HX:=xh (show ∀k (hk:k<l.length),l[k].1<65536∧l[k].2<65536 from fun k hk=>hx _ (List.getElem_mem hk));have HST:=xh (show ∀k (hk:k<l.length),eW F l h (k+1)=jO (jO (eW F l h k) (4+4*k) l[k].1) (6+4*k) l[k].2 from fun k hk=>by
  rw [eW]; simp [List.getD,List.getElem?_eq_getElem hk])
 have H0:=xh (show eW F l h 0=jO (jO F 0 l.length) 2 h from rfl);have HW:=xh (show iu F l h=eW F l h l.length from rfl);have K0:=xh (fX B 0 l.length (by omega) (by omega) (by omega) (by omega) (by omega));have AP:=xh (fun (w':World) (F':List UInt8) (B':j5 w' vb F')=>G4 B');have BB:=xh B;have HFF:=xh hF;clear S B hx hF;go_enter Tryz.func212,Tryz.ntmps212;go_wp2_with fail;refine K0.out.mono ?_;rintro e w1 ⟨rfl,B1,o1⟩
 have S1:=xh (SS.out.only o1 (AP.out _ _ BB.out));have O1:=xh o1;have K2:=xh (fX B1 2 h (by omega) (by rw [du,HFF.out]; omega) (by rw [du,HFF.out]; omega) (by omega) (by omega));have BB1:=xh B1;clear B1 o1 K0 SS;go_wp2_with fail;refine K2.out.mono ?_;rintro e w2 ⟨rfl,B2,o2⟩;have S2:=xh (S1.out.only o2 (AP.out _ _ BB1.out));have O2:=xh (O1.out.trans o2)
 rw [show (2:Int).toNat=2 from rfl,show (0:Int).toNat=0 from rfl,Int.toNat_natCast,Int.toNat_natCast,←H0.out] at B2;have BB2:=xh B2;clear B2 o2 K2 O1 S1 BB1;go_wp2_with fail
 go_loopw [18] (fun iv wr=> ∃k:Nat,k≤l.length∧iv= .int .i64 k∧j5 wr vb (eW F l h k)∧n7 wr (.slice A l.length c) l∧ag (ah vb) w wr) (fun iv _=>l.length-(intOf iv).toNat)
 case atStart=>exact ⟨0,Nat.zero_le _,rfl,BB2.out,S2.out,O2.out⟩
 case round=>
  obtain ⟨k,hk,rfl,B,S,O⟩:=hrel
  by_cases gw:k<l.length
  ·obtain ⟨g,rfl,c0,c1⟩:=S.cells k gw;have hx:=HX.out k gw;have HSTk:=xh (HST.out k gw);have hkl2:(k:Int)<(l.length:Int):=by omega
   generalize l[k]=x at *;obtain ⟨x0,x1⟩:=x;simp only at hx c0 c1 HSTk;have b8:=(Below.refl wr.heap.size wr).alloc (Nat.le_refl _) (.cells #[.int .i64 x0,.int .i64 x1] 271);have B8:=xh (B.below b8);have S8:=xh (S.below b8);have O8:=xh (O.trans (.ak b8));have Z8:=xh (ax.new wr 271 #[.int .i64 x0,.int .i64 x1]);have K3:=xh (fX B8.out (4+4*k) x0 (by omega) (by rw [Gm.out,HFF.out]; omega) (by rw [Gm.out,HFF.out]; omega) (by omega) (by omega));clear b8 B S O
   go_wp2_with fail;generalize wr.alloc (.cells #[.int .i64 x0,.int .i64 x1] 271)=W at *;generalize wr.heap.size=z at *;refine K3.out.mono ?_;rintro e w3 ⟨rfl,B3,o3⟩;have S3:=xh (S8.out.only o3 (AP.out _ _ B8.out));have O3:=xh (O8.out.trans o3);have Z3:=xh (Z8.out.only o3 (AP.out _ _ B8.out _ _ Z8.out));have z1:=Z3.out.ab (i:=1) rfl
   have K4:=xh (fX B3 (4+4*k+2) x1 (by omega) (by rw [du,Gm.out,HFF.out]; omega) (by rw [du,Gm.out,HFF.out]; omega) (by omega) (by omega));have B3:=xh B3;clear o3 K3 B8 S8 O8 Z8 c0 c1;go_wp2_with fail;refine K4.out.mono ?_;rintro e w4 ⟨rfl,B4,o4⟩;have S4:=xh (S3.out.only o4 (AP.out _ _ B3.out));have O4:=xh (O3.out.trans o4)
   rw [show (4+4*(k:Int)).toNat=4+4*k by omega,show (4+4*(k:Int)+2).toNat=6+4*k by omega,Int.toNat_natCast,Int.toNat_natCast,←HSTk.out] at B4;have B4:=xh B4;clear o4 K4 S3 O3 Z3 z1;go_wp2_with fail;go_roundw
   case rel=>exact ⟨k+1,by omega,by go_num,B4.out,S4.out,O4.out⟩
   case measure=>simp [intOf]; omega
  ·have vK:=xh (show k=l.length by omega);have KS:=xh (B.string (by rw [Gm.out,HFF.out]; omega));have OO:=xh O;clear B S O;go_wp2_with fail;rw [KS.out];go_wp2_with fail;go_ret;refine ⟨?_,OO.out⟩;rw [HW.out,←vK.out];rfl
end Go.Proofs.YtmonobkginiajaaGreat.Sl
namespace Go.Proofs.YtmonobkginiajaaGreat.Sl
open Go.RowKit
attribute [local go_sem ↓] aX
theorem kO:(Tryz.prog.info? 5).map (·.size)=some 1:=by kernel_rfl
theorem Fg (F:List UInt8) (o:Nat):lay F o []=F:=by simp [lay]
theorem DN {l r c:List Value} {o:Nat} (h:o+c.length≤l.length):putAt (l++r) o c=putAt l o c++r:=by
 unfold putAt;rw [List.take_append_of_le_length (by omega),List.drop_append_of_le_length h];simp
theorem l8 {w:World} {g cap:Nat} {F:List UInt8} (B:j5 w (.slice (some ⟨g,0,none⟩) F.length cap) F) (o oa sJ:Nat) (s:ByteArray) (ho:o+s.size≤F.length) (hoa:oa=o∨(s.size=0∧oa≤F.length)) (oL:Nat) (hd:oL=F.length-o):
  ∃w',(Builtin.copy_ #[150,9] 3 #[.slice (some ⟨g,oa,none⟩) oL sJ,.string s]).run Tryz.prog w= .ok (goInt s.size) w'∧j5 w' (.slice (some ⟨g,0,none⟩) F.length cap) (lay F o s.data.toList)∧ag [g] w w':=by
 obtain ⟨rest,BB,hc,_,hm⟩:=aG.oM B;have hl:(cI F).length=F.length:=gG F;have vB:s.data.toList.length=s.size:=by simp
 obtain ⟨w',e,B',o'⟩:=j0 (P:=Tryz.prog) BB 150 9 3 5 oa oL sJ s s.size Tryz.underlying150 kO (by rw [hd]; exact (Nat.min_eq_left (by omega)).symm) (by simp; omega);refine ⟨w',e,?_,o'⟩;rw [List.take_of_length_le (by omega),DN (by simp; omega),oR] at B';have el:lay F oa s.data.toList=lay F o s.data.toList:=by
  rcases hoa with rfl | ⟨h0,_⟩
  ·rfl
  ·have:s.data.toList=[]:=List.eq_nil_of_length_eq_zero (by omega);rw [this,Fg,Fg]
 rw [el] at B';have oN:(lay F o s.data.toList).length=F.length:=fN (by omega);unfold j5;rw [oN];exact ⟨by simp [oN],.inr ⟨g,cap,rest,rfl,B',by simp [oN]; simpa using hc,hm⟩⟩
theorem Au {w:World} {v:Value} {n:Nat} {l:List Slot} (S:aG w 271 2 v n (sc l)) (a b:Nat) (hn:n≤1000000):
  ∃v' w',dI Tryz.prog 266 266 (w.alloc (.cells #[.int .i64 a,.int .i64 b] 271)) v (.slice (some ⟨w.heap.size,0,none⟩) 1 1)= .ok v' w'∧aG w' 271 2 v' (n+1) (sc (l++[(a,b)]))∧ag (ah v) w w'∧(∀g∈ah v',g∈ah v∨w.heap.size≤g):=by
 obtain ⟨i0,hi,iL,gM,iw⟩:=info_parts qB;obtain ⟨v',w',ea,S',O',F'⟩:=cN (P:=Tryz.prog) (S.alloc (.cells #[.int .i64 a,.int .i64 b] 271)) 266 266 i0 (.agg #[.int .i64 0,.int .i64 0]) 16 Tryz.underlying266 hi iL gM iw rfl (by omega)
  ⟨w.heap.size,0,none⟩ 1 1 [.int .i64 a,.int .i64 b] rfl (aV (l:=[_,_]) (ax.new _ _ _) 0 _ (by simp)) (by intro u hu; simp at hu; rcases hu with rfl | rfl<;>rfl) (by unfold maxLen; omega) (by omega)
 rw [show sc l++[.int .i64 (a:Int),.int .i64 (b:Int)]=sc (l++[(a,b)]) from by rw [kz]; rfl] at S';exact ⟨v',w',ea,S',((ag.refl _ _).alloc _).aS O' (fun x hx _=>hx),fun g hg=>(F' g hg).imp id (fun h=>by simp at h; omega)⟩
theorem pF {w:World} {g n c:Nat} {F:List UInt8} {e:TypeId} {size m:Nat} {v:Value} {l:List Value} (h:aG w e size v m l) (B:j5 w (.slice (some ⟨g,0,none⟩) n c) F) (eg:e≠5): ∀x∈ah v,x∉[g]:=by
 have:=cv h B eg;simpa [ah] using this
def dQ (b:List UInt8) (k:Nat):nr:=((bX b).take k).foldl nr.add wZ
theorem Av (b:List UInt8) (k:Nat) (h:k<bh b 0):dQ b (k+1)=(dQ b k).add (jf b (slot b k)):=by
 unfold dQ;rw [qF b k h,List.foldl_append]; rfl
theorem uo (b:List UInt8):dQ b (bh b 0)=nD (bX b):=by
 unfold dQ nD;rw [List.take_of_length_le (by rw [bY]; exact Nat.le_refl _)]
theorem rF (l:List Nat): ∀k,(l.take k).sum≤l.sum:=by
 induction l with
 | nil=>intro k; simp
 | cons x l ih=>
  intro k
  cases k with
  | zero=>simp
  | succ k=>simp only [List.take_succ_cons,List.sum_cons]; have:=ih k; omega
theorem qG {b:List UInt8} (h:Sound b) (k:Nat):(dQ b k).Ok ((bX b).take k):=by
 refine uj _ ?_;rw [List.map_take];have:=rF ((bX b).map List.length) k;have:=h.sum;omega
theorem Aw {b:List UInt8} (h:Sound b) (k:Nat) (hk:k<bh b 0):(jf b (slot b k)).length≤(dQ b k).heap:=by
 have h1:=(qG h k).heap;have h2:=(qG h (k+1)).heap;rw [qF b k hk,List.map_append,List.sum_append] at h2;simp only [List.map_cons,List.map_nil,List.sum_cons,List.sum_nil] at h2;omega
def iS (b:List UInt8):List UInt8×Int:=if bw b=0 then (eS b,0) else ([],bw b)
theorem Ax (s:ByteArray) (w:World) (hs:s.size≤1000000):
  Calls Tryz.prog 211 #[.string s] w fun e w'=>e= .returned (.tuple #[.string ⟨(iS s.data.toList).1.toArray⟩,.int .i64 (iS s.data.toList).2])∧Below w.heap.size w w':=by
 have KA:=xh (j8 s w hs)
 by_cases h:bw s.data.toList=0
 ·have hS:=(dj _).1 h;have e1:iS s.data.toList=(eS s.data.toList,0):=by unfold iS; rw [if_pos h]
  rw [e1];clear e1;have JF:s.size=232:=by have:=hS.len; simpa using this
  have h4:=hS.head;have h5:=hS.heap;have HC:=xh h;have hlist:(bX s.data.toList).length=bh s.data.toList 0:=bY _;have HGET:=xh (show ∀k,k<bh s.data.toList 0→(strs (bX s.data.toList))[k]?=some (.string ⟨(jf s.data.toList (slot s.data.toList k)).toArray⟩) from fun k hk=>by
   simp [strs,bX,aZ,hk])
  have HSU:=xh (Av s.data.toList);have BV:=xh (fun k=>qG hS k);have HRM:=xh (fun k hk=>Aw hS k hk);have HCF:=xh (show eS s.data.toList=iu (dQ s.data.toList (bh s.data.toList 0)).out (dQ s.data.toList (bh s.data.toList 0)).to (dQ s.data.toList (bh s.data.toList 0)).heap from by rw [uo]; rfl);have HLA:=xh hS.comp;have HAL:=xh (uo s.data.toList)
  have H0:=xh (show dQ s.data.toList 0=wZ from rfl);clear h hS hlist JF;generalize hn:bh s.data.toList 0=n at *;have HN0:=xh hn;clear hn;have hmk:Hid (∀w':World,(Instr.makeSlice 150 (.int .i64 232) (.int .i64 232)).run Tryz.prog w'= .ok (.slice (some ⟨w'.heap.size,0,none⟩) 232 232) (w'.alloc (.cells (cI (List.replicate 232 0)).toArray 5))):=xh (fun w':World=>kP 232 (by omega) w');have HZ:=xh (show wZ=⟨List.replicate 232 0,[],232⟩ from rfl)
  have HZL:=xh (show (List.replicate 232 (0:UInt8)).length=232 from List.length_replicate);generalize List.replicate 232 (0:UInt8)=Z at *;go_enter Tryz.func211,Tryz.ntmps211;go_wp2_with fail;refine KA.out.mono ?_;rintro e w1 ⟨v,rfl,aM,fr,hv⟩
  rcases hv with ⟨-,T⟩ | ⟨eg,-⟩
  ·rw [HC.out];rw [HN0.out] at T;obtain ⟨A,c,rfl⟩:=aq T;have hm:=hmk.out;have B0:=xh (j5.new w1 Z (by rw [HZL.out]; unfold maxLen; omega));rw [HZL.out] at B0;have b0:=(Below.refl w1.heap.size w1).alloc (Nat.le_refl _) (.cells (cI Z).toArray 5);have T0:=xh (T.below b0);have O0:=xh (ao aM b0);have hg:=aM.size;clear b0 T aM fr hmk KA;go_wp2_with fail;generalize w1.alloc (.cells (cI Z).toArray 5)=W at *;generalize w1.heap.size=g at *;clear hm
   go_loopw [7,8,22] (fun v hv iv wr=> ∃k:Nat,k≤n∧iv= .int .i64 k∧hv= .int .i64 (dQ s.data.toList k).heap∧j5 wr (.slice (some ⟨g,0,none⟩) 232 232) (dQ s.data.toList k).out∧aG wr 271 2 v k (sc (dQ s.data.toList k).to)∧aG wr 9 1 (.slice A n c) n (strs (bX s.data.toList))∧Below w.heap.size w wr∧Hid (∀g∈ah v,w.heap.size≤g)) (fun _ _ iv _=>n-(intOf iv).toNat)
   case atStart=>exact ⟨0,Nat.zero_le _,rfl,by rw [H0.out]; rfl,by rw [H0.out,HZ.out]; exact B0.out,by rw [H0.out]; exact aG.nil _ _ _,T0.out,O0.out,xh (by simp [ah])⟩
   case round=>
    obtain ⟨k,hk,rfl,rfl,B,S,T,O,F⟩:=hrel;obtain ⟨SA,cS,rfl⟩:=aq S;have vT:=(BV.out k).len;have hsum:=(BV.out k).heap
    by_cases h:k<n
    ·obtain ⟨gT,cT,restT,hv,BT,qC,-⟩:=T.form (by omega) (by omega);simp only [Value.slice.injEq,true_and] at hv;obtain ⟨rfl,rfl⟩:=hv;have ck:wr.cell? ⟨gT,k,none⟩=some (.string ⟨(jf s.data.toList (slot s.data.toList k)).toArray⟩):=BT.ab (by
      have h1:=HGET.out k h;rw [List.getElem?_toArray,List.getElem?_append_left (List.getElem?_eq_some_iff.1 h1).1]; exact h1)
     have hrm:=HRM.out k h;have HS:=xh (HSU.out k h);have TT:=xh T;have OO:=xh O;have SS:=xh S;clear T O S BT;generalize jf s.data.toList (slot s.data.toList k)=r at *;have HCk:=xh (show dQ s.data.toList (k+1)=⟨lay (dQ s.data.toList k).out ((dQ s.data.toList k).heap-r.length) r,(dQ s.data.toList k).to++[((dQ s.data.toList k).heap-r.length,r.length)],(dQ s.data.toList k).heap-r.length⟩ from HS.out);generalize dQ s.data.toList k=C at *
     obtain ⟨out,to,heap⟩:=C;simp only at hrm B HCk SS vT hsum;have hhp:heap≤232:=by omega
     clear hsum;obtain ⟨R,rfl⟩: ∃R:ByteArray,R.data.toList=r:=⟨⟨r.toArray⟩,by simp⟩;have bf:(⟨R.data.toList.toArray⟩:ByteArray)=R:=by simp
     have hRl:R.data.toList.length=R.size:=by simp
     rw [bf] at ck;rw [hRl] at hrm HCk;obtain ⟨h',rfl⟩: ∃h',heap=h'+R.size:=⟨heap-R.size,by omega⟩;rw [Nat.add_sub_cancel] at HCk;have HB:=xh B;rw [←vT] at B;have KCP:=xh (fun (oa:Nat) (hoa:oa=h'∨(R.size=0∧oa≤232)) (sJ:Nat)=>l8 B h' oa sJ R (by omega) (by rw [vT]; exact hoa) (232-h') (by omega));rw [vT] at KCP;clear B vT bf hRl HS;have NS:=xh (pF SS.out HB.out (by decide));have NT:=xh (pF TT.out HB.out (by decide))
     have KX:=xh (show ∃(oa dc:Nat) (w5:World),((h'=232∧oa=0∧dc=0)∨(h'≠232∧oa=h'∧dc=232-h'))∧(Builtin.copy_ #[150,9] 3 #[.slice (some ⟨g,oa,none⟩) (232-h') dc,.string R]).run Tryz.prog wr= .ok (goInt R.size) w5∧j5 w5 (.slice (some ⟨g,0,none⟩) 232 232) (lay out h' R.data.toList)∧ag [g] wr w5 from by
      by_cases hz:h'=232
      ·obtain ⟨w5,h1,h2,h3⟩:=KCP.out 0 (.inr ⟨by omega,by omega⟩) 0;exact ⟨0,0,w5,.inl ⟨hz,rfl,rfl⟩,h1,h2,h3⟩
      ·obtain ⟨w5,h1,h2,h3⟩:=KCP.out h' (.inl rfl) (232-h');exact ⟨h',232-h',w5,.inr ⟨hz,rfl,rfl⟩,h1,h2,h3⟩)
     obtain ⟨oa,dc,w5,hoa,cp,B5,o5⟩:=KX.out;have S5:=SS.out.only o5 NS.out;have T5:=TT.out.only o5 NT.out;have O5:=xh (OO.out.trans (o5.ay OO.out.size (by simp; exact hg)));obtain ⟨v6,w6,ea,S6,o6,F6⟩:=Au S5 h' R.size (by omega);obtain ⟨VA,vc,rfl⟩:=aq S6;have B6:=xh (B5.only o6 (fun x hx hx'=>cv S5 B5 (by decide) x hx' hx));have T6:=xh (T5.only o6 (cv T5 S5 (by decide)));have O6:=xh (O5.out.trans (o6.ay O5.out.size F.out))
     have F7:=xh (show ∀g∈ah (.slice VA (k+1) vc),w.heap.size≤g from fun g hg=>(F6 g hg).elim (F.out g) (fun h=>Nat.le_trans O5.out.size h));have S6:=xh S6;clear KX B5 o5 S5 T5 o6 F6 KCP NS NT HB
     rcases hoa with ⟨rfl,rfl,rfl⟩ | ⟨hz,rfl,rfl⟩
     all_goals
      try simp only [show ((232:Nat):Int)=232 from rfl] at ea
      go_wp2_with fail;go_roundw
      case rel=>exact ⟨k+1,by omega,by go_num,by rw [HCk.out]<;>rfl,by rw [HCk.out]; exact B6.out,by rw [HCk.out]; exact S6.out,T6.out,O6.out,F7⟩
      case measure=>simp [intOf]; omega
    ·have vK:=xh (show k=n by omega);obtain rfl:k=n:=vK.out;have HL:=xh HLA.out;have HTL:=xh (BV.out k).Lk;rw [←HAL.out] at HL;have KW:=xh (um B (n7.of S) (dQ s.data.toList k).heap vT (by have h1:=HL.out.head; have h2:=HL.out.hh; omega) (by omega) (by have:=HL.out.hh; omega) HL.out.small);rw [Int.toNat_natCast,←HCF.out] at KW;have G5:=hg;have OO:=xh O;have hlt2:(dQ s.data.toList k).heap≤232:=HL.out.hh;clear B S T O HL
     generalize dQ s.data.toList k=C at *;go_wp2_with fail;refine KW.out.mono ?_;rintro e w5 ⟨rfl,o5⟩;have O6:=xh (OO.out.trans (o5.ay OO.out.size (by simpa [ah] using G5)));clear o5;go_wp2_with fail;go_ret2;exact ⟨rfl,O6.out⟩
  ·exact absurd HC.out eg
 ·have HC:=xh h;have hb:(bw s.data.toList==0)=false:=by simpa using h
  have e1:iS s.data.toList=([],bw s.data.toList):=by unfold iS; rw [if_neg h]
  rw [e1];clear h e1;unfold jn at KA;generalize bw s.data.toList=q at *;go_enter Tryz.func211,Tryz.ntmps211;go_wp2_with fail;refine KA.out.mono ?_;rintro e w1 ⟨v,rfl,aM,fr,hv⟩
  rcases hv with ⟨h0,-⟩ | ⟨-,rfl⟩
  ·exact absurd h0 HC.out
  ·have O:=xh aM;clear aM fr;go_wp2_with fail;go_ret2;exact ⟨rfl,O.out⟩
end Go.Proofs.YtmonobkginiajaaGreat.Sl
namespace Go.Proofs.YtmonobkginiajaaGreat.Sl
open Go.RowKit
attribute [local go_sem ↓] aX
theorem jh: ∃i:TypeInfo,Tryz.prog.info? 271=some i∧i.zero=some (.agg #[.int .i64 0,.int .i64 0])∧i.size=2∧i.bytes=16:=info_parts qB
theorem Lq {w:World} {A:Option Addr} {n c cc:Nat} (h:n≤c):dI Tryz.prog 266 266 w (.slice A n c) (.slice none 0 cc)= .ok (.slice A n c) w:=by
 obtain ⟨i0,y8,iL,gM,iw⟩:=jh;unfold dI
 cases A with
 | none=>simp [Builtin.append_,run_underlying Tryz.underlying266,sizeOf,typeInfo,y8,Builtin.lenOf,Builtin.firstCells,Nat.not_lt.2 h,h]
 | some a=>simp [Builtin.append_,run_underlying Tryz.underlying266,sizeOf,typeInfo,y8,Builtin.lenOf,Builtin.firstCells,h,storeCells]
theorem Ay (l:List Slot) (i:Nat):sc l=sc (l.take i)++sc (l.drop i):=by rw [←kz,List.take_append_drop]
theorem Az {w:World} {A:Option Addr} {n c:Nat} {l:List Slot} (S:aG w 271 2 (.slice A n c) n (sc l)) (i:Nat) (hi:i≤n) (hn:n≤1000000) (a:Addr) (cc:Nat) (lx:List Slot) (hm0:0<lx.length) (hm1:lx.length≤1000000) (hx: ∀j u,(sc lx)[j]?=some u→w.cell? (a.add j)=some u):
  ∃v' w',dI Tryz.prog 266 266 w (.slice A i i) (.slice (some a) lx.length cc)= .ok v' w'∧aG w' 271 2 v' (i+lx.length) (sc (l.take i++lx))∧Below w.heap.size w w'∧(∀g∈ah v',w.heap.size≤g):=by
 obtain ⟨i0,y8,iL,gM,iw⟩:=jh;have hl:=S.1;rw [gW] at hl;have hnl:(sc lx).length=lx.length*2:=by rw [gW]; omega
 rcases S.2 with ⟨hv,h0⟩ | ⟨g,cap,rest,hv,B,hc,_⟩
 ·simp only [Value.slice.injEq] at hv;obtain ⟨rfl,-,rfl⟩:=hv;subst h0;obtain rfl:i=0:=by omega
  obtain ⟨v',w',e,S',o,F⟩:=cN (P:=Tryz.prog) (aG.nil w 271 2) 266 266 i0 (.agg #[.int .i64 0,.int .i64 0]) 16 Tryz.underlying266 y8 iL gM iw rfl (by omega) a lx.length cc (sc lx) hnl hx (Lm lx) (by unfold maxLen; omega) (by omega);exact ⟨v',w',e,by rw [List.take_zero,List.nil_append]; simpa using S',o.below (by simp [ah]),fun x hx=>(F x hx).elim (by simp [ah]) id⟩
 ·simp only [Value.slice.injEq] at hv;obtain ⟨rfl,-,rfl⟩:=hv;have hli:(sc (l.take i)).length=i*2:=by rw [gW,List.length_take]; omega
  obtain ⟨v',w',sM,h2,h3⟩:=run_append_arg_grows (P:=Tryz.prog) w 266 266 271 i0 (.agg #[.int .i64 0,.int .i64 0]) 2 16 Tryz.underlying266 y8 iL gM iw rfl (by omega) ⟨g,0,none⟩ i i (sc (l.take i)) hli
   (aV B 0 _ (by
    intro j u hu;rw [Nat.zero_add];have hj:j<(sc (l.take i)).length:=(List.getElem?_eq_some_iff.1 hu).1;rw [Ay l i,List.append_assoc,List.getElem?_append_left hj];exact hu)) a lx.length cc (sc lx) hnl hx (by omega) (by unfold maxLen; omega) (by omega)
  rw [←kz] at h2;refine ⟨v',w',sM,.sK h2,((ag.refl [] w).grown h3 (by simp)).cZ,?_⟩;intro g' hg
  rcases h2.2 with ⟨rfl,_⟩ | ⟨g'',Cg,cur,rfl,hb,_⟩
  ·simp [ah] at hg
  ·simp [ah] at hg; subst hg; exact hb
theorem uq {w:World} {A:Option Addr} {n c:Nat} {l:List Slot} (S:aG w 271 2 (.slice A n c) n (sc l)) (i:Nat) (hi:i≤n) (hn:n≤1000000) (a b:Nat):
  ∃v' w',dI Tryz.prog 266 266 (w.alloc (.cells #[.int .i64 a,.int .i64 b] 271)) (.slice A i i) (.slice (some ⟨w.heap.size,0,none⟩) 1 1)= .ok v' w'∧aG w' 271 2 v' (i+1) (sc (l.take i++[(a,b)]))∧Below w.heap.size w w'∧(∀g∈ah v',w.heap.size≤g):=by
 have b0:=(Below.refl w.heap.size w).alloc (Nat.le_refl _) (.cells #[.int .i64 (a:Int),.int .i64 (b:Int)] 271);obtain ⟨v',w',e,S',o,F⟩:=Az (S.below b0) i hi hn ⟨w.heap.size,0,none⟩ 1 [(a,b)] (by simp) (by simp) (aV (l:=[.int .i64 (a:Int),.int .i64 (b:Int)]) (ax.new _ _ _) 0 _ (by intro j u hu; rw [Nat.zero_add]; exact hu));exact ⟨v',w',e,S',ao b0 o,fun g hg=>Nat.le_trans (by simp) (F g hg)⟩
theorem rG {w:World} {vt:Value} {m:Nat} {lt:List Slot} (T:aG w 271 2 vt m (sc lt)) {A:Option Addr} {n c:Nat} {l:List Slot} (S:aG w 271 2 (.slice A n c) n (sc l)) (i:Nat) (hi:i≤n) (hn:n≤1000000) (hm:m≤1000000) (hmp:0<m):
  ∃A' cc v' w',((A=none∧n=0∧i=0∧c=0∧A'=none∧cc=0)∨(∃g,A=some ⟨g,0,none⟩∧c=i∧n=i∧A'=some ⟨g,0,none⟩∧cc=0)∨(∃g,A=some ⟨g,0,none⟩∧c≠i∧i<c∧n≤c∧A'=some ⟨g,i*2,none⟩∧cc=c-i))∧
   dI Tryz.prog 266 266 w vt (.slice A' (n-i) cc)= .ok v' w'∧aG w' 271 2 v' (m+(n-i)) (sc (lt++l.drop i))∧ag (ah vt) w w'∧(∀g∈ah v',g∈ah vt∨w.heap.size≤g):=by
 obtain ⟨i0,y8,iL,gM,iw⟩:=jh;have hl:=S.1;rw [gW] at hl
 rcases S.2 with ⟨hv,h0⟩ | ⟨g,cap,rest,hv,B,hc,_⟩
 ·simp only [Value.slice.injEq] at hv;obtain ⟨rfl,-,rfl⟩:=hv;subst h0;obtain rfl:i=0:=by omega
  have EJ:l=[]:=List.eq_nil_of_length_eq_zero (by omega);subst EJ;obtain ⟨g,cap,rest,rfl,_,qC,_⟩:=T.form hmp (by omega);exact ⟨none,0,_,w,.inl ⟨rfl,rfl,rfl,rfl,rfl,rfl⟩,Lq qC,by simpa using T,ag.refl _ _,fun x hx=> .inl hx⟩
 ·simp only [Value.slice.injEq] at hv;obtain ⟨rfl,-,rfl⟩:=hv;have FO:n≤c:=by
   have:=S.1;omega
  have hdl:(sc (l.drop i)).length=(n-i)*2:=by rw [gW,List.length_drop]; omega
  have hcells: ∀(o:Nat),o=i*2∨n-i=0→ ∀j u,(sc (l.drop i))[j]?=some u→w.cell? ((⟨g,o,none⟩:Addr).add j)=some u:=fun o ho=>aV B o _ (by
   intro j u hu;have hj:j<(sc (l.drop i)).length:=(List.getElem?_eq_some_iff.1 hu).1
   rcases ho with rfl | h0
   ·have hti:(sc (l.take i)).length=i*2:=by rw [gW,List.length_take]; omega
    rw [Ay l i,List.append_assoc,List.getElem?_append_right (by omega),hti,Nat.add_sub_cancel_left,List.getElem?_append_left hj];exact hu
   ·omega)
  have key: ∀(o cc:Nat),o=i*2∨n-i=0→ ∃v' w',dI Tryz.prog 266 266 w vt (.slice (some ⟨g,o,none⟩) (n-i) cc)= .ok v' w'∧aG w' 271 2 v' (m+(n-i)) (sc (lt++l.drop i))∧ag (ah vt) w w'∧(∀g∈ah v',g∈ah vt∨w.heap.size≤g):=by
   intro o cc ho;obtain ⟨v',w',e,S',o',F⟩:=cN (P:=Tryz.prog) T 266 266 i0 (.agg #[.int .i64 0,.int .i64 0]) 16 Tryz.underlying266 y8 iL gM iw rfl (by omega) ⟨g,o,none⟩ (n-i) cc (sc (l.drop i)) hdl (hcells o ho) (Lm _) (by unfold maxLen; omega) (by omega);rw [←kz] at S';exact ⟨v',w',e,S',o',F⟩
  by_cases hci:c=i
  ·have hni:n=i:=by omega
   obtain ⟨v',w',h1,h2,h3,h4⟩:=key 0 0 (.inr (by omega));exact ⟨_,0,v',w',.inr (.inl ⟨g,rfl,hci,hni,rfl,rfl⟩),h1,h2,h3,h4⟩
  ·obtain ⟨v',w',h1,h2,h3,h4⟩:=key (i*2) (c-i) (.inl rfl);exact ⟨_,c-i,v',w',.inr (.inr ⟨g,rfl,hci,by omega,FO,rfl,rfl⟩),h1,h2,h3,h4⟩
end Go.Proofs.YtmonobkginiajaaGreat.Sl
namespace Go.Proofs.YtmonobkginiajaaGreat.Sl
open Go.RowKit
attribute [local go_sem ↓] aX
def pG (b:List UInt8) (i:Int) (r:List UInt8):List UInt8×Int:=
 if bw b=0 then (if 0≤i∧i≤(bh b 0:Int) then (if (r.length:Int)≤fD b-4 then (nY b i.toNat r,0) else ([],11)) else ([],3)) else ([],bw b)
theorem Lr {b r:List UInt8} (h: ¬4+4*(bh b 0+1)+r.length>bh b 2):gV b r=b:=by unfold gV; rw [if_neg h]
theorem G6 {b r:List UInt8} (h:4+4*(bh b 0+1)+r.length>bh b 2):gV b r=eS b:=by unfold gV; rw [if_pos h]
theorem nE (s:ByteArray) (w:World) (hs:s.size≤1000000):
  ∃cap w',(convert 9 150 (.string s)).run Tryz.prog w= .ok (.slice (some ⟨w.heap.size,0,none⟩) s.size cap) w'∧j5 w' (.slice (some ⟨w.heap.size,0,none⟩) s.size cap) s.data.toList∧Below w.heap.size w w':=by
 obtain ⟨cap,w1,e1,S1,aM⟩:=rV (P:=Tryz.prog) w 9 150 5 s Tryz.underlying9 Tryz.underlying150 Tryz.underlying5 (by unfold maxLen; omega);refine ⟨cap,w1,e1,?_,aM⟩;unfold j5;rw [show s.data.toList.length=s.size from by simp];exact S1
theorem AA {b r:List UInt8} (h:Sound b) (i:Nat) (hr:(r.length:Int)≤fD b-4) (hi:i≤bh b 0):
  ∃t:List UInt8,t=gV b r∧Sound t∧bh t 0=bh b 0∧4+4*(bh b 0+1)+r.length≤bh t 2∧
   nY b i r=iu (lay t (bh t 2-r.length) r) (((aZ t).take i++[(bh t 2-r.length,r.length)])++(aZ t).drop i) (bh t 2-r.length)∧
   Laid (lay t (bh t 2-r.length) r) (((aZ t).take i++[(bh t 2-r.length,r.length)])++(aZ t).drop i) (bh t 2-r.length):=by
 obtain ⟨hs,he,h0,hh⟩:=h.base r hr;refine ⟨_,rfl,hs,h0,hh,?_,?_⟩
 ·unfold nY; simp
 ·rw [List.append_assoc];exact Laid.insert hs i r (by rw [h0]; exact hh) (by rw [h0]; exact hi)
theorem G7 (s r:ByteArray) (i:Nat) (w:World) (hs:Sound s.data.toList) (hr:(r.size:Int)≤fD s.data.toList-4) (hi:i≤bh s.data.toList 0):
  Calls Tryz.prog 164 #[.string s,.int .i64 i,.string r] w fun e w'=>e= .returned (.tuple #[.string ⟨(nY s.data.toList i r.data.toList).toArray⟩,.int .i64 0])∧Below w.heap.size w w':=by
 have JF:s.size=232:=by have:=hs.len; simpa using this
 have h4:=hs.head;have h5:=hs.heap;have Dj:r.data.toList.length=r.size:=by simp
 obtain ⟨t,ht,tS,t0,t2,hF,Fh⟩:=AA hs i (r:=r.data.toList) (by rw [Dj]; exact hr) hi;rw [Dj] at t2 hF Fh;rw [hF];have IG:=(dj _).2 hs;have J4:pE s.data.toList=fD s.data.toList:=by unfold pE; rw [if_pos IG]
 have hrle:fD s.data.toList≤228:=by unfold fD; omega
 have KC:=xh (fun w'=>mR s w' (by omega));have KL:=xh (fun w'=>ic s w' (by omega) (by omega));have KR:=xh (fun w'=>As s w' (by omega));have K2:=xh (fun w'=>dG s 2 w' (by omega) (by omega) (by omega));have KM:=xh (fun w'=>Ax s w' (by omega));have hcg:iS s.data.toList=(eS s.data.toList,0):=by unfold iS; rw [if_pos IG]
 rw [hcg] at KM;rw [IG] at KC;rw [J4] at KR;simp only [show (2:Int).toNat=2 from rfl] at K2;obtain ⟨T,rfl⟩: ∃T:ByteArray,T.data.toList=t:=⟨⟨t.toArray⟩,by simp⟩;have BU:T.size=232:=by have:=tS.len; simpa using this
 have tH:=tS.heap;have KLT:=xh (fun w'=>ic T w' (by rw [t0]; omega) (by omega));have K2T:=xh (fun w'=>dG T 2 w' (by omega) (by omega) (by omega));simp only [show (2:Int).toNat=2 from rfl] at K2T;rw [t0] at KLT;have HSL:=xh (cf T.data.toList);rw [t0] at HSL;obtain ⟨h',hh'⟩: ∃h',bh T.data.toList 2=h'+r.size:=⟨bh T.data.toList 2-r.size,by omega⟩;rw [hh',Nat.add_sub_cancel] at Fh;rw [hh',Nat.add_sub_cancel];rw [hh'] at tH t2 K2T
 have Ff:bh s.data.toList 0<65536:=ug _ _;have rH:=xh Fh;have HT:=xh ht;have HCB:=xh (show 4+4*(bh s.data.toList 0+1)+r.size>bh s.data.toList 2→(⟨(eS s.data.toList).toArray⟩:ByteArray)=T from fun hg=>by
  rw [G6 (by rw [Dj]; exact hg)] at ht;rw [←ht])
 have KK:=xh (show ¬4+4*(bh s.data.toList 0+1)+r.size>bh s.data.toList 2→s=T from fun hg=>by
  rw [Lr (by rw [Dj]; exact hg)] at ht;apply ByteArray.ext;apply Array.toList_inj.1;exact ht.symm)
 have HTL:=xh BU;have hTl1:T.size≤1000000:=by omega
 clear ht tS hF Fh IG J4 hcg JF Dj hh' BU t0 hs;generalize bh s.data.toList 0=n at *;generalize bh s.data.toList 2=heap at *;generalize fD s.data.toList=room at *;go_enter Tryz.func164,Tryz.ntmps164;go_wp2_with fail;refine (KC.out _).mono ?_;rintro e w1 ⟨rfl,aM⟩;have O1:=xh aM;clear aM;go_wp2_with fail;refine (KL.out _).mono ?_;rintro e w2 ⟨v,rfl,S2,bT,EL⟩;have O2:=xh (ao O1.out bT);have hS2:=xh S2;obtain ⟨A2,c2,rfl⟩:=aq S2
 have FR2:=xh (show ∀g∈ah (.slice A2 n c2),w.heap.size≤g from fun g hg=>Nat.le_trans O1.out.size (EL g hg));clear S2 bT EL;go_wp2_with fail;refine (KR.out _).mono ?_;rintro e w3 ⟨rfl,eG⟩;have O3:=xh (ao O2.out eG);have S3:=xh (hS2.out.below eG);clear eG hS2;go_wp2_with fail;refine (K2.out _).mono ?_;rintro e w4 ⟨rfl,fM⟩;have O4:=xh (ao O3.out fM);have S4:=xh (S3.out.below fM);clear fM S3 O3 O2 O1
 by_cases hg:4+4*(n+1)+r.size>heap
 ·have e1:=HCB.out hg;rw [e1] at KM;clear e1;have xc:heap<4+4*(n+1)+r.size:=hg;clear hg HCB KK;go_wp2_with fail;refine (KM.out _).mono ?_;rintro e w5 ⟨rfl,ko⟩;have O5:=xh (ao O4.out ko);clear ko O4;go_wp2_with fail;refine (KLT.out _).mono ?_;rintro e w6 ⟨v,rfl,S6,vI,fr6⟩;have O6:=xh (ao O5.out vI);obtain ⟨A,c,rfl⟩:=aq S6;have S:=xh S6;have FR:=xh (show ∀g∈ah (.slice A n c),w.heap.size≤g from fun g hg=>Nat.le_trans O5.out.size (fr6 g hg))
  clear S6 vI fr6 O5 S4;go_wp2_with fail;refine (K2T.out _).mono ?_;rintro e w7 ⟨rfl,fY⟩;have O7:=xh (ao O6.out fY);have S7:=xh (S.out.below fY);clear fY S O6 xc KM K2 KC KL KR K2T KLT;obtain ⟨cap,w8,e8,B8,za⟩:=nE T w7 (by omega);rw [HTL.out] at e8 B8;have E8:=xh e8;have O8:=xh (ao O7.out za);have S8:=S7.out.below za;have hgw:=Nat.le_trans O7.out.size (Nat.le_refl w7.heap.size);have l9:T.data.toList.length=232:=by have:=HTL.out; simpa using this
  have NS:=xh (pF S8 B8 (by decide));have qC:232≤cap:=by obtain ⟨rest,_,h2,_⟩:=aG.oM B8; rw [gG,l9] at h2; omega
  obtain ⟨oa,dc,w9,hoa,cp,B9,o9⟩: ∃(oa dc:Nat) (w9:World),((h'=232∧cap=232∧oa=0∧dc=0)∨(h'≠cap∧h'<cap∧oa=h'∧dc=cap-h'))∧(Builtin.copy_ #[150,9] 3 #[.slice (some ⟨w7.heap.size,oa,none⟩) (232-h') dc,.string r]).run Tryz.prog w8= .ok (goInt r.size) w9∧j5 w9 (.slice (some ⟨w7.heap.size,0,none⟩) 232 cap) (lay T.data.toList h' r.data.toList)∧ag [w7.heap.size] w8 w9:=by
   rw [←l9] at B8
   by_cases hz:h'=cap
   ·obtain ⟨w9,h1,h2,h3⟩:=l8 B8 h' 0 0 r (by omega) (.inr ⟨by omega,by omega⟩) (232-h') (by omega);rw [l9] at h2;exact ⟨0,0,w9,.inl ⟨by omega,by omega,rfl,rfl⟩,h1,h2,h3⟩
   ·obtain ⟨w9,h1,h2,h3⟩:=l8 B8 h' h' (cap-h') r (by omega) (.inl rfl) (232-h') (by omega);rw [l9] at h2;exact ⟨h',cap-h',w9,.inr ⟨hz,by omega,rfl,rfl⟩,h1,h2,h3⟩
  have S9:=S8.only o9 NS.out;have O9:=xh (O8.out.trans (o9.ay O8.out.size (by simpa using hgw)));obtain ⟨v10,jo,ea,T10,yK,Lt⟩:=uq S9 i hi (by omega) h' r.size;obtain ⟨V10,c10,rfl⟩:=aq T10;have O10:=xh (ao O9.out yK);have B10:=B9.below yK;have pH:=S9.below yK;obtain ⟨A',cc,v11,w11,hd,eb,T11,o11,-⟩:=rG T10 pH i hi (by omega) (by omega) (by omega);obtain ⟨V11,c11,rfl⟩:=aq T11
  have B11:=B10.only o11 (fun x hx hx'=>cv T10 B10 (by decide) x hx' hx);have nt:=xh (O10.out.trans (o11.ay O10.out.size (fun x hx=>Nat.le_trans O9.out.size (Lt x hx))));have KW:=xh (um B11 (n7.of T11) h' rH.out.len (by have h1:=rH.out.head; have h2:=rH.out.hh; omega) (by omega) (by omega) rH.out.small);rw [Int.toNat_natCast] at KW;have G5:=xh (show ∀x∈ah (.slice (some ⟨w7.heap.size,0,none⟩) 232 cap),w.heap.size≤x from by simpa [ah] using hgw)
  generalize Lu:iu (lay T.data.toList h' r.data.toList) (List.take i (aZ T.data.toList)++[(h',r.size)]++List.drop i (aZ T.data.toList)) h'=RES at *;have JA:=xh Lu;clear Lu;clear e8 B8 za S8 NS B9 o9 S9 T10 yK Lt B10 pH T11 o11 B11 O7 S7 O8 O9 O10 l9;go_wp2_with fail;rw [E8.out]
  rcases hoa with ⟨rfl,rfl,rfl,rfl⟩ | ⟨hz,iw,rfl,rfl⟩
  all_goals
   rcases hd with ⟨rfl,rfl,rfl,rfl,rfl,rfl⟩ | ⟨gA,rfl,rfl,rfl,rfl,rfl⟩ | ⟨gA,rfl,hci,hci2,FO,rfl,rfl⟩
  all_goals
   try simp only [show ((232:Nat):Int)=232 from rfl,show ((0:Nat):Int)=0 from rfl] at ea
   try simp only [Nat.sub_self,Nat.add_zero] at eb KW
   go_wp2_with fail;refine KW.out.mono ?_;rintro e w12 ⟨rfl,o12⟩;have O12:=xh (nt.out.trans (o12.ay nt.out.size G5.out));clear o12;go_wp2_with fail;go_ret2;refine ⟨?_,O12.out⟩
   first | rfl | (rw [JA.out]; rfl)
 ·have e1:=KK.out hg;have xc:4+4*(n+1)+r.size≤heap:=by omega
  clear hg HCB KK;subst e1;have A2':=FR2;go_wp2_with fail;refine (K2T.out _).mono ?_;rintro e w7 ⟨rfl,fY⟩;have O7:=xh (ao O4.out fY);have S7:=xh (S4.out.below fY);clear fY S4 O4 xc KM K2 KC KL KR K2T KLT;obtain ⟨cap,w8,e8,B8,za⟩:=nE s w7 (by omega);rw [HTL.out] at e8 B8;have E8:=xh e8;have O8:=xh (ao O7.out za);have S8:=S7.out.below za;have hgw:=Nat.le_trans O7.out.size (Nat.le_refl w7.heap.size)
  have l9:s.data.toList.length=232:=by have:=HTL.out; simpa using this
  have NS:=xh (pF S8 B8 (by decide));have qC:232≤cap:=by obtain ⟨rest,_,h2,_⟩:=aG.oM B8; rw [gG,l9] at h2; omega
  obtain ⟨oa,dc,w9,hoa,cp,B9,o9⟩: ∃(oa dc:Nat) (w9:World),((h'=232∧cap=232∧oa=0∧dc=0)∨(h'≠cap∧h'<cap∧oa=h'∧dc=cap-h'))∧(Builtin.copy_ #[150,9] 3 #[.slice (some ⟨w7.heap.size,oa,none⟩) (232-h') dc,.string r]).run Tryz.prog w8= .ok (goInt r.size) w9∧j5 w9 (.slice (some ⟨w7.heap.size,0,none⟩) 232 cap) (lay s.data.toList h' r.data.toList)∧ag [w7.heap.size] w8 w9:=by
   rw [←l9] at B8
   by_cases hz:h'=cap
   ·obtain ⟨w9,h1,h2,h3⟩:=l8 B8 h' 0 0 r (by omega) (.inr ⟨by omega,by omega⟩) (232-h') (by omega);rw [l9] at h2;exact ⟨0,0,w9,.inl ⟨by omega,by omega,rfl,rfl⟩,h1,h2,h3⟩
   ·obtain ⟨w9,h1,h2,h3⟩:=l8 B8 h' h' (cap-h') r (by omega) (.inl rfl) (232-h') (by omega);rw [l9] at h2;exact ⟨h',cap-h',w9,.inr ⟨hz,by omega,rfl,rfl⟩,h1,h2,h3⟩
  have S9:=S8.only o9 NS.out;have O9:=xh (O8.out.trans (o9.ay O8.out.size (by simpa using hgw)));obtain ⟨v10,jo,ea,T10,yK,Lt⟩:=uq S9 i hi (by omega) h' r.size;obtain ⟨V10,c10,rfl⟩:=aq T10;have O10:=xh (ao O9.out yK);have B10:=B9.below yK;have pH:=S9.below yK;obtain ⟨A',cc,v11,w11,hd,eb,T11,o11,-⟩:=rG T10 pH i hi (by omega) (by omega) (by omega);obtain ⟨V11,c11,rfl⟩:=aq T11
  have B11:=B10.only o11 (fun x hx hx'=>cv T10 B10 (by decide) x hx' hx);have nt:=xh (O10.out.trans (o11.ay O10.out.size (fun x hx=>Nat.le_trans O9.out.size (Lt x hx))));have KW:=xh (um B11 (n7.of T11) h' rH.out.len (by have h1:=rH.out.head; have h2:=rH.out.hh; omega) (by omega) (by omega) rH.out.small);rw [Int.toNat_natCast] at KW;have G5:=xh (show ∀x∈ah (.slice (some ⟨w7.heap.size,0,none⟩) 232 cap),w.heap.size≤x from by simpa [ah] using hgw)
  generalize Lu:iu (lay s.data.toList h' r.data.toList) (List.take i (aZ s.data.toList)++[(h',r.size)]++List.drop i (aZ s.data.toList)) h'=RES at *;have JA:=xh Lu;clear Lu;clear e8 B8 za S8 NS B9 o9 S9 T10 yK Lt B10 pH T11 o11 B11 O7 S7 O8 O9 O10 l9;go_wp2_with fail;rw [E8.out]
  rcases hoa with ⟨rfl,rfl,rfl,rfl⟩ | ⟨hz,iw,rfl,rfl⟩
  all_goals
   rcases hd with ⟨rfl,rfl,rfl,rfl,rfl,rfl⟩ | ⟨gA,rfl,rfl,rfl,rfl,rfl⟩ | ⟨gA,rfl,hci,hci2,FO,rfl,rfl⟩
  all_goals
   try simp only [show ((232:Nat):Int)=232 from rfl,show ((0:Nat):Int)=0 from rfl] at ea
   try simp only [Nat.sub_self,Nat.add_zero] at eb KW
   go_wp2_with fail;refine KW.out.mono ?_;rintro e w12 ⟨rfl,o12⟩;have O12:=xh (nt.out.trans (o12.ay nt.out.size G5.out));clear o12;go_wp2_with fail;go_ret2;refine ⟨?_,O12.out⟩
   first | rfl | (rw [JA.out]; rfl)
end Go.Proofs.YtmonobkginiajaaGreat.Sl
namespace Go.Proofs.YtmonobkginiajaaGreat.Sl
open Go.RowKit
attribute [local go_sem ↓] Go.wp_at_zero Go.wp_at_succ
attribute [local go_sem ↓] aX
theorem DO (s r:ByteArray) (i:Int) (w:World) (hs:s.size≤1000000) (hr:r.size≤9223372036854775807):
  Calls Tryz.prog 164 #[.string s,.int .i64 i,.string r] w fun e w'=>e= .returned (.tuple #[.string ⟨(pG s.data.toList i r.data.toList).1.toArray⟩,.int .i64 (pG s.data.toList i r.data.toList).2])∧Below w.heap.size w w':=by
 have Dj:r.data.toList.length=r.size:=by simp
 have KC:=xh (fun w'=>mR s w' hs)
 by_cases h:bw s.data.toList=0
 ·have hS:=(dj _).1 h;have JF:s.size=232:=by have:=hS.len; simpa using this
  have h4:=hS.head;have h5:=hS.heap
  by_cases hi:0≤i∧i≤(bh s.data.toList 0:Int)
  ·by_cases hg:(r.size:Int)≤fD s.data.toList-4
   ·have e1:pG s.data.toList i r.data.toList=(nY s.data.toList i.toNat r.data.toList,0):=by unfold pG; rw [if_pos h,if_pos hi,Dj,if_pos hg]
    rw [e1];obtain ⟨k,rfl⟩:=Int.eq_ofNat_of_zero_le hi.1;rw [Int.toNat_natCast];exact G7 s r k w hS hg (by omega)
   ·have e1:pG s.data.toList i r.data.toList=([],11):=by unfold pG; rw [if_pos h,if_pos hi,Dj,if_neg hg]
    rw [e1];have J4:pE s.data.toList=fD s.data.toList:=by unfold pE; rw [if_pos h]
    have Ca: -1000000≤fD s.data.toList:=by
     rw [uk hS];have:=hS.sum;omega
    have G8:fD s.data.toList≤228:=by unfold fD; omega
    have KL:=xh (fun w'=>ic s w' (by omega) hs);have KR:=xh (fun w'=>As s w' hs);rw [J4] at KR;rw [h] at KC;have xc:fD s.data.toList-4<(r.size:Int):=by omega
    clear e1 h hS J4 hg;generalize fD s.data.toList=room at *;generalize bh s.data.toList 0=n at *;obtain ⟨hi1,IJ⟩:=hi;go_enter Tryz.func164,Tryz.ntmps164;go_wp2_with fail;refine (KC.out _).mono ?_;rintro e w1 ⟨rfl,aM⟩;have O1:=xh aM;clear aM;go_wp2_with fail;refine (KL.out _).mono ?_;rintro e w2 ⟨v,rfl,S2,bT,-⟩;have O2:=xh (ao O1.out bT);obtain ⟨A2,c2,rfl⟩:=aq S2;clear S2 bT;go_wp2_with fail;refine (KR.out _).mono ?_;rintro e w3 ⟨rfl,eG⟩
    have O3:=xh (ao O2.out eG);clear eG;go_wp2_with fail;go_ret2;exact ⟨rfl,O3.out⟩
  ·have e1:pG s.data.toList i r.data.toList=([],3):=by unfold pG; rw [if_pos h,if_neg hi]
   rw [e1];have KL:=xh (fun w'=>ic s w' (by omega) hs);rw [h] at KC;generalize bh s.data.toList 0=n at *;have hx:i<0∨(¬i<0∧(n:Int)<i):=by omega
   clear e1 h hi hS
   rcases hx with h1 | ⟨h1,h2⟩
   all_goals
    go_enter Tryz.func164,Tryz.ntmps164;go_wp2_with fail;refine (KC.out _).mono ?_;rintro e w1 ⟨rfl,aM⟩;have O1:=xh aM;clear aM;go_wp2_with fail;refine (KL.out _).mono ?_;rintro e w2 ⟨v,rfl,S2,bT,-⟩;have O2:=xh (ao O1.out bT);obtain ⟨A2,c2,rfl⟩:=aq S2;clear S2 bT;go_wp2_with fail;go_ret2;exact ⟨rfl,O2.out⟩
 ·have e1:pG s.data.toList i r.data.toList=([],bw s.data.toList):=by unfold pG; rw [if_neg h]
  have hb:(bw s.data.toList==0)=false:=by simpa using h
  rw [e1];clear e1 h;generalize bw s.data.toList=q at *;go_enter Tryz.func164,Tryz.ntmps164;go_wp2_with fail;refine (KC.out _).mono ?_;rintro e w1 ⟨rfl,aM⟩;have O1:=xh aM;clear aM;go_wp2_with fail;go_ret2;exact ⟨rfl,O1.out⟩
end Go.Proofs.YtmonobkginiajaaGreat.Sl
namespace Go.Proofs.YtmonobkginiajaaGreat.Sl
open Go.RowKit
attribute [local go_sem ↓] Go.wp_at_zero Go.wp_at_succ
attribute [local go_sem ↓] aX
end Go.Proofs.YtmonobkginiajaaGreat.Sl
namespace Go.Proofs.YtmonobkginiajaaGreat.Sl
open Go.RowKit
end Go.Proofs.YtmonobkginiajaaGreat.Sl
namespace Go.Proofs.YtmonobkginiajaaGreat.Sl
open Go.RowKit
end Go.Proofs.YtmonobkginiajaaGreat.Sl
