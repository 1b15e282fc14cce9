/- packed. -/
import Derived.Test.YtmonobkginiajaaGreatQ2
import Derived.Deep.RegionHeld3
import Derived.Deep.DrawnRows
import Derived.Laws.ResultCell
import Derived.ChangeKeysEq
set_option linter.all false
set_option maxRecDepth 100000
set_option maxHeartbeats 8000000
namespace Go.Proofs.YtmonobkginiajaaGreat.Rt
open Go.RowKit Pk
attribute [local go_sem ↓] Go.wp_at_zero Go.wp_at_succ
theorem ae {W w1:World} (h:Below W.heap.size W w1) (o:Obj):Below W.heap.size W (w1.alloc o):=h.alloc h.size o
theorem bool_of (p:Prop): ∃b:Bool,b=true↔p:=by
 by_cases h:p
 ·exact ⟨true,by simp [h]⟩
 ·exact ⟨false,by simp [h]⟩
def gr (w:World) (A:Option Addr) (n:Nat) (l:List Int):Prop:=l.length=n∧ ∀k x,l[k]?=some x→ ∃ad,A=some ad∧w.cell? (ad.add k)=some (.int .i64 x)
theorem gr.below {w w':World} {A:Option Addr} {n:Nat} {l:List Int} (h:gr w A n l) (hb:Below w.heap.size w w'):gr w' A n l:=by
 refine ⟨h.1,fun k x hx=>?_⟩;obtain ⟨ad,e1,h1⟩:=h.2 k x hx;exact ⟨ad,e1,(hb.cell (by rw [oJ]; exact cell_lt h1)).trans h1⟩
theorem gr.at {w:World} {A:Option Addr} {n:Nat} {l:List Int} (h:gr w A n l) (k:Nat) (hk:k<n): ∃ad x,A=some ad∧l[k]?=some x∧w.cell? (ad.add k)=some (.int .i64 x):=by
 have hl:=h.1;obtain ⟨ad,e1,h1⟩:=h.2 k l[k] (List.getElem?_eq_getElem (by omega));exact ⟨ad,l[k],e1,List.getElem?_eq_getElem (by omega),h1⟩
theorem gr.take {w:World} {A:Option Addr} {n:Nat} {l:List Int} (h:gr w A n l) (k:Nat) (hk:k≤n):gr w A k (l.take k):=by
 refine ⟨by rw [List.length_take]; have:=h.1; omega,fun j x hx=>?_⟩;rw [List.getElem?_take] at hx
 split at hx
 ·exact h.2 j x hx
 ·cases hx
def iQ (n:Int):Int:=(max n 0+115) / 116
def wG (a b:Int) (A:Option Addr) (n c:Nat):Value:= .agg #[.int .i64 a,.int .i64 b,.slice A n c]
def eQ (ep lg:Int) (l:List Int):Prop:=1≤ep∧ep≤1099511627776∧0≤lg∧lg≤512∧(l.length:Int)=iQ lg∧ ∀i x,l[i]?=some x→0≤x∧x≤1023∧x∉l.take i
theorem tg (n:Int) (h:n≤1000000) (w:World):
  Calls Tryz.prog 149 #[.int .i64 n] w fun e w'=>e= .returned (.int .i64 (iQ n))∧Below w.heap.size w w':=by
 unfold iQ;obtain ⟨m,hm⟩:=Int.eq_ofNat_of_zero_le (show 0≤max n 0 by omega);rw [hm];have IC:m≤1000000:=by omega
 have e1:IntKind.i64.wrap ((m:Int)+116)=(m:Int)+116:=IntWalk.i64_in _ (by omega);have e2:IntKind.i64.wrap ((m:Int)+116-1)=(m:Int)+115:=by rw [show (m:Int)+116-1=(m:Int)+115 by omega]; exact IntWalk.i64_in _ (by omega)
 have e3:IntKind.i64.wrap (((m:Int)+115).tdiv 116)=((m:Int)+115) / 116:=by rw [Int.tdiv_eq_ediv_of_nonneg (by omega)]; exact IntWalk.i64_in _ (by omega)
 have e4:IntKind.i64.wrap ((m:Int)+115)=(m:Int)+115:=IntWalk.i64_in _ (by omega);go_enter Tryz.func149,Tryz.ntmps149;go_wp2_with fail
 all_goals
  go_ret;refine ⟨?_,Below.refl _ _⟩
  first | (simp; done) | (simp; omega)
theorem mG {w:World} (A:Option Addr) (n c:Nat) (l:List Int) (x:Int) (h:gr w A n l) (hn:n≤1000000):
  Calls Tryz.prog 165 #[.slice A n c,.int .i64 x] w fun e w'=>(∃k:Int,e= .returned (.int .i64 k)∧(0≤k↔x∈l))∧w'=w:=by
 have H0:=xh h;go_enter Tryz.func165,Tryz.ntmps165;go_wp2_with fail
 go_loopw [8] (fun iv wr=> ∃i:Nat,i≤n∧iv= .int .i64 i∧Hid (∀j y,j<i→l[j]?=some y→y≠x)∧wr=w) (fun iv _=>n-(intOf iv).toNat)
 case atStart=>exact ⟨0,Nat.zero_le _,rfl,xh (fun j y h=>absurd h (Nat.not_lt_zero _)),rfl⟩
 case round=>
  obtain ⟨i,hi,rfl,HX,rfl⟩:=hrel
  by_cases h':i<n
  ·obtain ⟨ad,y,rfl,hy,ck⟩:=H0.out.at i h';have hiI:(i:Int)<(n:Int):=by omega
   have HY:=xh hy;clear hy h
   by_cases hxy:x=y
   ·subst hxy;go_wp2_with fail;go_ret;refine ⟨⟨(i:Int),rfl,?_⟩,rfl⟩;exact ⟨fun _=>List.mem_of_getElem? HY.out,fun _=>by omega⟩
   ·have hxy2:(x==y)=false:=by simpa using hxy
    have HX2:=xh (show ∀j z,j<i+1→l[j]?=some z→z≠x from fun j z hj hz=>by
     rcases Nat.lt_succ_iff_lt_or_eq.1 hj with h1 | rfl
     ·exact HX.out j z h1 hz
     ·rw [HY.out] at hz; injection hz with hz; subst hz; exact fun e=>hxy e.symm)
    go_wp2_with fail;go_roundw
    case rel=>exact ⟨i+1,by omega,by go_num,HX2,by first | rfl | trivial⟩
    case measure=>simp [intOf]; omega
  ·obtain rfl:i=n:=by omega
   clear h;go_wp2_with fail;go_ret;refine ⟨⟨-1,rfl,?_⟩,rfl⟩
   constructor
   ·intro h1; omega
   ·intro hm;exfalso;obtain ⟨j,hj,hjx⟩:=List.getElem_of_mem hm;exact HX.out j _ (by have:=H0.out.1; omega) (List.getElem?_eq_getElem hj) hjx
theorem ye {w:World} (A:Option Addr) (n c:Nat) (l:List Int) (x:Int) (h:gr w A n l) (hn:n≤1000000) (b:Bool) (hb:b=true↔x∈l):
  Calls Tryz.prog 201 #[.slice A n c,.int .i64 x] w fun e w'=>e= .returned (.bool b)∧w'=w:=by
 have K:=xh (mG A n c l x h hn);have HB:=xh hb;clear h hb;go_enter Tryz.func201,Tryz.ntmps201;go_wp2_with fail;refine K.out.mono ?_;rintro e w1 ⟨⟨k,rfl,hk⟩,rfl⟩;have HK:=xh hk;clear hk
 by_cases h0:0≤k
 ·have h1: ¬k<0:=by omega
  go_wp2_with fail;go_ret;refine ⟨?_,rfl⟩;rw [HB.out.2 (HK.out.1 h0)]; first | rfl | simp
 ·have h1:k<0:=by omega
  go_wp2_with fail;go_ret;refine ⟨?_,rfl⟩
  cases b
  ·first | rfl | (simp; omega)
  ·exact absurd (HK.out.2 (HB.out.1 rfl)) (by omega)
end Go.Proofs.YtmonobkginiajaaGreat.Rt
namespace Go.Proofs.YtmonobkginiajaaGreat.Rt
open Go.RowKit Pk
attribute [local go_sem ↓] Go.wp_at_zero Go.wp_at_succ
theorem iz {ep lg:Int} {l:List Int} (h:eQ ep lg l):l.length≤5:=by
 have:=h.2.2.2.2.1;unfold iQ at this;have:=h.2.2.2.1;omega
theorem qf {w:World} (ep lg:Int) (A:Option Addr) (n c:Nat) (l:List Int) (h:gr w A n l) (hn:n≤1000000) (FO:n≤c) (b:Bool) (hb:b=true↔eQ ep lg l):
  Calls Tryz.prog 156 #[wG ep lg A n c] w fun e w'=>e= .returned (.bool b)∧Below w.heap.size w w':=by
 have O0:=ae (Below.refl w.heap.size w) (.cells #[.int .i64 ep,.int .i64 lg,.slice A n c] 155);have B0:=xh (ax.new w 155 #[.int .i64 ep,.int .i64 lg,.slice A n c]);have H0:=xh (h.below O0);have HB:=xh hb;have HL:=xh h.1;have O0:=xh O0;clear h hb;unfold wG
 have wB:(ep<1)∨(¬ep<1∧1099511627776<ep)∨(¬ep<1∧ ¬1099511627776<ep∧lg<0)∨(¬ep<1∧ ¬1099511627776<ep∧ ¬lg<0∧512<lg)∨(¬ep<1∧ ¬1099511627776<ep∧ ¬lg<0∧ ¬512<lg∧(n:Int)≠iQ lg)∨(¬ep<1∧ ¬1099511627776<ep∧ ¬lg<0∧ ¬512<lg∧(n:Int)=iQ lg):=by omega
 have KN:=xh (fun (hl:lg≤512) w=>tg lg (by omega) w)
 rcases wB with h1 | ⟨h1,h2⟩ | ⟨h1,h2,h3⟩ | ⟨h1,h2,h3,h4⟩ | ⟨h1,h2,h3,h4,h5⟩ | ⟨h1,h2,h3,h4,h5⟩
 ·go_enter Tryz.func156,Tryz.ntmps156;go_wp2_with fail;generalize hW:(w.alloc (.cells #[.int .i64 ep,.int .i64 lg,.slice A n c] 155))=W at *;clear hW
  have HK:=xh (show ∀W',Below W.heap.size W W'→(W'.cell? ⟨w.heap.size,0,none⟩=some (.int .i64 ep)∧W'.cell? ⟨w.heap.size,1,none⟩=some (.int .i64 lg)∧W'.cell? ⟨w.heap.size,2,none⟩=some (.slice A n c)) from fun W' ho=>⟨(B0.out.below ho B0.out.lt).ab (i:=0) rfl,(B0.out.below ho B0.out.lt).ab (i:=1) rfl,(B0.out.below ho B0.out.lt).ab (i:=2) rfl⟩);have OD:=xh ((Below.refl W.heap.size W).drew)
  refine wp_region_held_drew (S:=fun W'=>W'.cell? ⟨w.heap.size,0,none⟩=some (.int .i64 ep)∧W'.cell? ⟨w.heap.size,1,none⟩=some (.int .i64 lg)∧W'.cell? ⟨w.heap.size,2,none⟩=some (.slice A n c)) (by kernel_rfl) (HK.out _ OD.out) (fun aj=>?_);refine bR [(0,5),(1,6)] ?_
  iterate 2 (refine zt ?_; try simp only [Act.put,pa,pb,pc])
  refine bS ?_;refine wpAnyH_take (i:=2) (oi:=⟨some 7,_,_,_,_,_⟩) (v:= .bool true) rfl (by kernel_rfl) (by kernel_rfl) (by kernel_rfl) (fun _ _ _ h=>h) (Or.inl ⟨by kernel_rfl,?_⟩) (by assumption) ?_
  ·(intro w ks; (try dsimp only at ks); go_simp; (try omega))
  try simp only [Act.put,pa,pb,pc]
  refine bR [(3,8)] ?_
  iterate 1 (refine zt ?_; try simp only [Act.put,pa,pb,pc])
  refine bS ?_;refine fU (i:=4) (oi:=⟨some 9,_,_,_,_,_⟩) rfl (by kernel_rfl) (fun _ _ _ h=>h) (by assumption) ?_
  try simp only [Act.put,pa,pb,pc]
  refine fU (i:=5) (oi:=⟨some 10,_,_,_,_,_⟩) rfl (by kernel_rfl) (fun _ _ _ h=>h) (by assumption) ?_
  try simp only [Act.put,pa,pb,pc]
  refine fU (i:=6) (oi:=⟨some 11,_,_,_,_,_⟩) rfl (by kernel_rfl) (fun _ _ _ h=>h) (by assumption) ?_
  try simp only [Act.put,pa,pb,pc]
  refine bR [(7,12),(8,13)] ?_
  iterate 2 (refine zt ?_; try simp only [Act.put,pa,pb,pc])
  refine bS ?_;refine fU (i:=9) (oi:=⟨some 14,_,_,_,_,_⟩) rfl (by kernel_rfl) (fun _ _ _ h=>h) (by assumption) ?_
  try simp only [Act.put,pa,pb,pc]
  refine fU (i:=10) (oi:=⟨some 15,_,_,_,_,_⟩) rfl (by kernel_rfl) (fun _ _ _ h=>h) (by assumption) ?_
  try simp only [Act.put,pa,pb,pc]
  refine fU (i:=11) (oi:=⟨some 16,_,_,_,_,_⟩) rfl (by kernel_rfl) (fun _ _ _ h=>h) (by assumption) ?_
  try simp only [Act.put,pa,pb,pc]
  refine bR [(12,17),(13,18)] ?_
  iterate 2 (refine zt ?_; try simp only [Act.put,pa,pb,pc])
  refine bS ?_;refine fU (i:=14) (oi:=⟨some 19,_,_,_,_,_⟩) rfl (by kernel_rfl) (fun _ _ _ h=>h) (by assumption) ?_
  try simp only [Act.put,pa,pb,pc]
  refine fU (i:=15) (oi:=⟨some 20,_,_,_,_,_⟩) rfl (by kernel_rfl) (fun _ _ _ h=>h) (by assumption) ?_
  try simp only [Act.put,pa,pb,pc]
  refine fU (i:=16) (oi:=⟨some 21,_,_,_,_,_⟩) rfl (by kernel_rfl) (fun _ _ _ h=>h) (by assumption) ?_
  try simp only [Act.put,pa,pb,pc]
  refine bR [(17,22),(18,23)] ?_
  iterate 2 (refine zt ?_; try simp only [Act.put,pa,pb,pc])
  refine bS ?_;refine fU (i:=19) (oi:=⟨some 24,_,_,_,_,_⟩) rfl (by kernel_rfl) (fun _ _ _ h=>h) (by assumption) ?_
  try simp only [Act.put,pa,pb,pc]
  refine fU (i:=20) (oi:=⟨some 25,_,_,_,_,_⟩) rfl (by kernel_rfl) (fun _ _ _ h=>h) (by assumption) ?_
  try simp only [Act.put,pa,pb,pc]
  refine fU (i:=21) (oi:=⟨some 26,_,_,_,_,_⟩) rfl (by kernel_rfl) (fun _ _ _ h=>h) (by assumption) ?_
  try simp only [Act.put,pa,pb,pc]
  refine fU (i:=22) (oi:=⟨some 27,_,_,_,_,_⟩) rfl (by kernel_rfl) (fun _ _ _ h=>h) (by assumption) ?_
  try simp only [Act.put,pa,pb,pc]
  refine fU (i:=23) (oi:=⟨some 28,_,_,_,_,_⟩) rfl (by kernel_rfl) (fun _ _ _ h=>h) (by assumption) ?_
  try simp only [Act.put,pa,pb,pc]
  refine fU (i:=24) (oi:=⟨some 29,_,_,_,_,_⟩) rfl (by kernel_rfl) (fun _ _ _ h=>h) (by assumption) ?_
  try simp only [Act.put,pa,pb,pc]
  refine fU (i:=25) (oi:=⟨some 30,_,_,_,_,_⟩) rfl (by kernel_rfl) (fun _ _ _ h=>h) (by assumption) ?_
  try simp only [Act.put,pa,pb,pc]
  refine bR [(26,31)] ?_
  iterate 1 (refine zt ?_; try simp only [Act.put,pa,pb,pc])
  refine bS ?_;refine wpAnyH_done (by kernel_rfl) ?_ _;have PP:=xh (ao O0.out OD.out);go_wp2_with fail;go_ret;refine ⟨?_,PP.out⟩
  cases b
  ·first | rfl | simp
  ·exfalso;have hr:=HB.out.1 rfl;have hl:=HL.out;unfold eQ at hr;omega
 ·go_enter Tryz.func156,Tryz.ntmps156;go_wp2_with fail;generalize hW:(w.alloc (.cells #[.int .i64 ep,.int .i64 lg,.slice A n c] 155))=W at *;clear hW
  have HK:=xh (show ∀W',Below W.heap.size W W'→(W'.cell? ⟨w.heap.size,0,none⟩=some (.int .i64 ep)∧W'.cell? ⟨w.heap.size,1,none⟩=some (.int .i64 lg)∧W'.cell? ⟨w.heap.size,2,none⟩=some (.slice A n c)) from fun W' ho=>⟨(B0.out.below ho B0.out.lt).ab (i:=0) rfl,(B0.out.below ho B0.out.lt).ab (i:=1) rfl,(B0.out.below ho B0.out.lt).ab (i:=2) rfl⟩);have OD:=xh ((Below.refl W.heap.size W).drew)
  refine wp_region_held_drew (S:=fun W'=>W'.cell? ⟨w.heap.size,0,none⟩=some (.int .i64 ep)∧W'.cell? ⟨w.heap.size,1,none⟩=some (.int .i64 lg)∧W'.cell? ⟨w.heap.size,2,none⟩=some (.slice A n c)) (by kernel_rfl) (HK.out _ OD.out) (fun aj=>?_);refine bR [(0,5),(1,6)] ?_
  iterate 2 (refine zt ?_; try simp only [Act.put,pa,pb,pc])
  refine bS ?_;refine wpAnyH_take (i:=2) (oi:=⟨some 7,_,_,_,_,_⟩) (v:= .bool false) rfl (by kernel_rfl) (by kernel_rfl) (by kernel_rfl) (fun _ _ _ h=>h) (Or.inl ⟨by kernel_rfl,?_⟩) (by assumption) ?_
  ·(intro w ks; (try dsimp only at ks); go_simp; (try omega))
  try simp only [Act.put,pa,pb,pc]
  refine bR [(3,8),(4,9),(5,10)] ?_
  iterate 3 (refine zt ?_; try simp only [Act.put,pa,pb,pc])
  refine bS ?_;refine wpAnyH_take (i:=6) (oi:=⟨some 11,_,_,_,_,_⟩) (v:= .bool true) rfl (by kernel_rfl) (by kernel_rfl) (by kernel_rfl) (fun _ _ _ h=>h) (Or.inl ⟨by kernel_rfl,?_⟩) (by assumption) ?_
  ·(intro w ks; (try dsimp only at ks); go_simp; (try omega))
  try simp only [Act.put,pa,pb,pc]
  refine bR [(7,12),(8,13)] ?_
  iterate 2 (refine zt ?_; try simp only [Act.put,pa,pb,pc])
  refine bS ?_;refine fU (i:=9) (oi:=⟨some 14,_,_,_,_,_⟩) rfl (by kernel_rfl) (fun _ _ _ h=>h) (by assumption) ?_
  try simp only [Act.put,pa,pb,pc]
  refine fU (i:=10) (oi:=⟨some 15,_,_,_,_,_⟩) rfl (by kernel_rfl) (fun _ _ _ h=>h) (by assumption) ?_
  try simp only [Act.put,pa,pb,pc]
  refine fU (i:=11) (oi:=⟨some 16,_,_,_,_,_⟩) rfl (by kernel_rfl) (fun _ _ _ h=>h) (by assumption) ?_
  try simp only [Act.put,pa,pb,pc]
  refine bR [(12,17),(13,18)] ?_
  iterate 2 (refine zt ?_; try simp only [Act.put,pa,pb,pc])
  refine bS ?_;refine fU (i:=14) (oi:=⟨some 19,_,_,_,_,_⟩) rfl (by kernel_rfl) (fun _ _ _ h=>h) (by assumption) ?_
  try simp only [Act.put,pa,pb,pc]
  refine fU (i:=15) (oi:=⟨some 20,_,_,_,_,_⟩) rfl (by kernel_rfl) (fun _ _ _ h=>h) (by assumption) ?_
  try simp only [Act.put,pa,pb,pc]
  refine fU (i:=16) (oi:=⟨some 21,_,_,_,_,_⟩) rfl (by kernel_rfl) (fun _ _ _ h=>h) (by assumption) ?_
  try simp only [Act.put,pa,pb,pc]
  refine bR [(17,22),(18,23)] ?_
  iterate 2 (refine zt ?_; try simp only [Act.put,pa,pb,pc])
  refine bS ?_;refine fU (i:=19) (oi:=⟨some 24,_,_,_,_,_⟩) rfl (by kernel_rfl) (fun _ _ _ h=>h) (by assumption) ?_
  try simp only [Act.put,pa,pb,pc]
  refine fU (i:=20) (oi:=⟨some 25,_,_,_,_,_⟩) rfl (by kernel_rfl) (fun _ _ _ h=>h) (by assumption) ?_
  try simp only [Act.put,pa,pb,pc]
  refine fU (i:=21) (oi:=⟨some 26,_,_,_,_,_⟩) rfl (by kernel_rfl) (fun _ _ _ h=>h) (by assumption) ?_
  try simp only [Act.put,pa,pb,pc]
  refine fU (i:=22) (oi:=⟨some 27,_,_,_,_,_⟩) rfl (by kernel_rfl) (fun _ _ _ h=>h) (by assumption) ?_
  try simp only [Act.put,pa,pb,pc]
  refine fU (i:=23) (oi:=⟨some 28,_,_,_,_,_⟩) rfl (by kernel_rfl) (fun _ _ _ h=>h) (by assumption) ?_
  try simp only [Act.put,pa,pb,pc]
  refine fU (i:=24) (oi:=⟨some 29,_,_,_,_,_⟩) rfl (by kernel_rfl) (fun _ _ _ h=>h) (by assumption) ?_
  try simp only [Act.put,pa,pb,pc]
  refine fU (i:=25) (oi:=⟨some 30,_,_,_,_,_⟩) rfl (by kernel_rfl) (fun _ _ _ h=>h) (by assumption) ?_
  try simp only [Act.put,pa,pb,pc]
  refine bR [(26,31)] ?_
  iterate 1 (refine zt ?_; try simp only [Act.put,pa,pb,pc])
  refine bS ?_;refine wpAnyH_done (by kernel_rfl) ?_ _;have PP:=xh (ao O0.out OD.out);go_wp2_with fail;go_ret;refine ⟨?_,PP.out⟩
  cases b
  ·first | rfl | simp
  ·exfalso;have hr:=HB.out.1 rfl;have hl:=HL.out;unfold eQ at hr;omega
 ·go_enter Tryz.func156,Tryz.ntmps156;go_wp2_with fail;generalize hW:(w.alloc (.cells #[.int .i64 ep,.int .i64 lg,.slice A n c] 155))=W at *;clear hW
  have HK:=xh (show ∀W',Below W.heap.size W W'→(W'.cell? ⟨w.heap.size,0,none⟩=some (.int .i64 ep)∧W'.cell? ⟨w.heap.size,1,none⟩=some (.int .i64 lg)∧W'.cell? ⟨w.heap.size,2,none⟩=some (.slice A n c)) from fun W' ho=>⟨(B0.out.below ho B0.out.lt).ab (i:=0) rfl,(B0.out.below ho B0.out.lt).ab (i:=1) rfl,(B0.out.below ho B0.out.lt).ab (i:=2) rfl⟩);have OD:=xh ((Below.refl W.heap.size W).drew)
  refine wp_region_held_drew (S:=fun W'=>W'.cell? ⟨w.heap.size,0,none⟩=some (.int .i64 ep)∧W'.cell? ⟨w.heap.size,1,none⟩=some (.int .i64 lg)∧W'.cell? ⟨w.heap.size,2,none⟩=some (.slice A n c)) (by kernel_rfl) (HK.out _ OD.out) (fun aj=>?_);refine bR [(0,5),(1,6)] ?_
  iterate 2 (refine zt ?_; try simp only [Act.put,pa,pb,pc])
  refine bS ?_;refine wpAnyH_take (i:=2) (oi:=⟨some 7,_,_,_,_,_⟩) (v:= .bool false) rfl (by kernel_rfl) (by kernel_rfl) (by kernel_rfl) (fun _ _ _ h=>h) (Or.inl ⟨by kernel_rfl,?_⟩) (by assumption) ?_
  ·(intro w ks; (try dsimp only at ks); go_simp; (try omega))
  try simp only [Act.put,pa,pb,pc]
  refine bR [(3,8),(4,9),(5,10)] ?_
  iterate 3 (refine zt ?_; try simp only [Act.put,pa,pb,pc])
  refine bS ?_;refine wpAnyH_take (i:=6) (oi:=⟨some 11,_,_,_,_,_⟩) (v:= .bool false) rfl (by kernel_rfl) (by kernel_rfl) (by kernel_rfl) (fun _ _ _ h=>h) (Or.inl ⟨by kernel_rfl,?_⟩) (by assumption) ?_
  ·(intro w ks; (try dsimp only at ks); go_simp; (try omega))
  try simp only [Act.put,pa,pb,pc]
  refine bR [(7,12),(8,13),(9,14),(10,15)] ?_
  iterate 4 (refine zt ?_; try simp only [Act.put,pa,pb,pc])
  refine bS ?_;refine wpAnyH_take (i:=11) (oi:=⟨some 16,_,_,_,_,_⟩) (v:= .bool true) rfl (by kernel_rfl) (by kernel_rfl) (by kernel_rfl) (fun _ _ _ h=>h) (Or.inl ⟨by kernel_rfl,?_⟩) (by assumption) ?_
  ·(intro w ks; (try dsimp only at ks); go_simp; (try omega))
  try simp only [Act.put,pa,pb,pc]
  refine bR [(12,17),(13,18)] ?_
  iterate 2 (refine zt ?_; try simp only [Act.put,pa,pb,pc])
  refine bS ?_;refine fU (i:=14) (oi:=⟨some 19,_,_,_,_,_⟩) rfl (by kernel_rfl) (fun _ _ _ h=>h) (by assumption) ?_
  try simp only [Act.put,pa,pb,pc]
  refine fU (i:=15) (oi:=⟨some 20,_,_,_,_,_⟩) rfl (by kernel_rfl) (fun _ _ _ h=>h) (by assumption) ?_
  try simp only [Act.put,pa,pb,pc]
  refine fU (i:=16) (oi:=⟨some 21,_,_,_,_,_⟩) rfl (by kernel_rfl) (fun _ _ _ h=>h) (by assumption) ?_
  try simp only [Act.put,pa,pb,pc]
  refine bR [(17,22),(18,23)] ?_
  iterate 2 (refine zt ?_; try simp only [Act.put,pa,pb,pc])
  refine bS ?_;refine fU (i:=19) (oi:=⟨some 24,_,_,_,_,_⟩) rfl (by kernel_rfl) (fun _ _ _ h=>h) (by assumption) ?_
  try simp only [Act.put,pa,pb,pc]
  refine fU (i:=20) (oi:=⟨some 25,_,_,_,_,_⟩) rfl (by kernel_rfl) (fun _ _ _ h=>h) (by assumption) ?_
  try simp only [Act.put,pa,pb,pc]
  refine fU (i:=21) (oi:=⟨some 26,_,_,_,_,_⟩) rfl (by kernel_rfl) (fun _ _ _ h=>h) (by assumption) ?_
  try simp only [Act.put,pa,pb,pc]
  refine fU (i:=22) (oi:=⟨some 27,_,_,_,_,_⟩) rfl (by kernel_rfl) (fun _ _ _ h=>h) (by assumption) ?_
  try simp only [Act.put,pa,pb,pc]
  refine fU (i:=23) (oi:=⟨some 28,_,_,_,_,_⟩) rfl (by kernel_rfl) (fun _ _ _ h=>h) (by assumption) ?_
  try simp only [Act.put,pa,pb,pc]
  refine fU (i:=24) (oi:=⟨some 29,_,_,_,_,_⟩) rfl (by kernel_rfl) (fun _ _ _ h=>h) (by assumption) ?_
  try simp only [Act.put,pa,pb,pc]
  refine fU (i:=25) (oi:=⟨some 30,_,_,_,_,_⟩) rfl (by kernel_rfl) (fun _ _ _ h=>h) (by assumption) ?_
  try simp only [Act.put,pa,pb,pc]
  refine bR [(26,31)] ?_
  iterate 1 (refine zt ?_; try simp only [Act.put,pa,pb,pc])
  refine bS ?_;refine wpAnyH_done (by kernel_rfl) ?_ _;have PP:=xh (ao O0.out OD.out);go_wp2_with fail;go_ret;refine ⟨?_,PP.out⟩
  cases b
  ·first | rfl | simp
  ·exfalso;have hr:=HB.out.1 rfl;have hl:=HL.out;unfold eQ at hr;omega
 ·go_enter Tryz.func156,Tryz.ntmps156;go_wp2_with fail;generalize hW:(w.alloc (.cells #[.int .i64 ep,.int .i64 lg,.slice A n c] 155))=W at *;clear hW
  have HK:=xh (show ∀W',Below W.heap.size W W'→(W'.cell? ⟨w.heap.size,0,none⟩=some (.int .i64 ep)∧W'.cell? ⟨w.heap.size,1,none⟩=some (.int .i64 lg)∧W'.cell? ⟨w.heap.size,2,none⟩=some (.slice A n c)) from fun W' ho=>⟨(B0.out.below ho B0.out.lt).ab (i:=0) rfl,(B0.out.below ho B0.out.lt).ab (i:=1) rfl,(B0.out.below ho B0.out.lt).ab (i:=2) rfl⟩);have OD:=xh ((Below.refl W.heap.size W).drew)
  refine wp_region_held_drew (S:=fun W'=>W'.cell? ⟨w.heap.size,0,none⟩=some (.int .i64 ep)∧W'.cell? ⟨w.heap.size,1,none⟩=some (.int .i64 lg)∧W'.cell? ⟨w.heap.size,2,none⟩=some (.slice A n c)) (by kernel_rfl) (HK.out _ OD.out) (fun aj=>?_);refine bR [(0,5),(1,6)] ?_
  iterate 2 (refine zt ?_; try simp only [Act.put,pa,pb,pc])
  refine bS ?_;refine wpAnyH_take (i:=2) (oi:=⟨some 7,_,_,_,_,_⟩) (v:= .bool false) rfl (by kernel_rfl) (by kernel_rfl) (by kernel_rfl) (fun _ _ _ h=>h) (Or.inl ⟨by kernel_rfl,?_⟩) (by assumption) ?_
  ·(intro w ks; (try dsimp only at ks); go_simp; (try omega))
  try simp only [Act.put,pa,pb,pc]
  refine bR [(3,8),(4,9),(5,10)] ?_
  iterate 3 (refine zt ?_; try simp only [Act.put,pa,pb,pc])
  refine bS ?_;refine wpAnyH_take (i:=6) (oi:=⟨some 11,_,_,_,_,_⟩) (v:= .bool false) rfl (by kernel_rfl) (by kernel_rfl) (by kernel_rfl) (fun _ _ _ h=>h) (Or.inl ⟨by kernel_rfl,?_⟩) (by assumption) ?_
  ·(intro w ks; (try dsimp only at ks); go_simp; (try omega))
  try simp only [Act.put,pa,pb,pc]
  refine bR [(7,12),(8,13),(9,14),(10,15)] ?_
  iterate 4 (refine zt ?_; try simp only [Act.put,pa,pb,pc])
  refine bS ?_;refine wpAnyH_take (i:=11) (oi:=⟨some 16,_,_,_,_,_⟩) (v:= .bool false) rfl (by kernel_rfl) (by kernel_rfl) (by kernel_rfl) (fun _ _ _ h=>h) (Or.inl ⟨by kernel_rfl,?_⟩) (by assumption) ?_
  ·(intro w ks; (try dsimp only at ks); go_simp; (try omega))
  try simp only [Act.put,pa,pb,pc]
  refine bR [(12,17),(13,18),(14,19),(15,20)] ?_
  iterate 4 (refine zt ?_; try simp only [Act.put,pa,pb,pc])
  refine bS ?_;refine wpAnyH_take (i:=16) (oi:=⟨some 21,_,_,_,_,_⟩) (v:= .bool true) rfl (by kernel_rfl) (by kernel_rfl) (by kernel_rfl) (fun _ _ _ h=>h) (Or.inl ⟨by kernel_rfl,?_⟩) (by assumption) ?_
  ·(intro w ks; (try dsimp only at ks); go_simp; (try omega))
  try simp only [Act.put,pa,pb,pc]
  refine bR [(17,22),(18,23)] ?_
  iterate 2 (refine zt ?_; try simp only [Act.put,pa,pb,pc])
  refine bS ?_;refine fU (i:=19) (oi:=⟨some 24,_,_,_,_,_⟩) rfl (by kernel_rfl) (fun _ _ _ h=>h) (by assumption) ?_
  try simp only [Act.put,pa,pb,pc]
  refine fU (i:=20) (oi:=⟨some 25,_,_,_,_,_⟩) rfl (by kernel_rfl) (fun _ _ _ h=>h) (by assumption) ?_
  try simp only [Act.put,pa,pb,pc]
  refine fU (i:=21) (oi:=⟨some 26,_,_,_,_,_⟩) rfl (by kernel_rfl) (fun _ _ _ h=>h) (by assumption) ?_
  try simp only [Act.put,pa,pb,pc]
  refine fU (i:=22) (oi:=⟨some 27,_,_,_,_,_⟩) rfl (by kernel_rfl) (fun _ _ _ h=>h) (by assumption) ?_
  try simp only [Act.put,pa,pb,pc]
  refine fU (i:=23) (oi:=⟨some 28,_,_,_,_,_⟩) rfl (by kernel_rfl) (fun _ _ _ h=>h) (by assumption) ?_
  try simp only [Act.put,pa,pb,pc]
  refine fU (i:=24) (oi:=⟨some 29,_,_,_,_,_⟩) rfl (by kernel_rfl) (fun _ _ _ h=>h) (by assumption) ?_
  try simp only [Act.put,pa,pb,pc]
  refine fU (i:=25) (oi:=⟨some 30,_,_,_,_,_⟩) rfl (by kernel_rfl) (fun _ _ _ h=>h) (by assumption) ?_
  try simp only [Act.put,pa,pb,pc]
  refine bR [(26,31)] ?_
  iterate 1 (refine zt ?_; try simp only [Act.put,pa,pb,pc])
  refine bS ?_;refine wpAnyH_done (by kernel_rfl) ?_ _;have PP:=xh (ao O0.out OD.out);go_wp2_with fail;go_ret;refine ⟨?_,PP.out⟩
  cases b
  ·first | rfl | simp
  ·exfalso;have hr:=HB.out.1 rfl;have hl:=HL.out;unfold eQ at hr;omega
 ·replace KN:=xh (KN.out (by omega))
  obtain ⟨nd,wg⟩: ∃nd,iQ lg=nd:=⟨_,rfl⟩;have HND:=xh wg;rw [wg] at KN h5;clear wg;go_enter Tryz.func156,Tryz.ntmps156;go_wp2_with fail;generalize hW:(w.alloc (.cells #[.int .i64 ep,.int .i64 lg,.slice A n c] 155))=W at *;clear hW
  have HK:=xh (show ∀W',Below W.heap.size W W'→(W'.cell? ⟨w.heap.size,0,none⟩=some (.int .i64 ep)∧W'.cell? ⟨w.heap.size,1,none⟩=some (.int .i64 lg)∧W'.cell? ⟨w.heap.size,2,none⟩=some (.slice A n c)) from fun W' ho=>⟨(B0.out.below ho B0.out.lt).ab (i:=0) rfl,(B0.out.below ho B0.out.lt).ab (i:=1) rfl,(B0.out.below ho B0.out.lt).ab (i:=2) rfl⟩);have OD:=xh ((Below.refl W.heap.size W).drew)
  refine wp_region_held_drew (S:=fun W'=>W'.cell? ⟨w.heap.size,0,none⟩=some (.int .i64 ep)∧W'.cell? ⟨w.heap.size,1,none⟩=some (.int .i64 lg)∧W'.cell? ⟨w.heap.size,2,none⟩=some (.slice A n c)) (by kernel_rfl) (HK.out _ OD.out) (fun aj=>?_);refine bR [(0,5),(1,6)] ?_
  iterate 2 (refine zt ?_; try simp only [Act.put,pa,pb,pc])
  refine bS ?_;refine wpAnyH_take (i:=2) (oi:=⟨some 7,_,_,_,_,_⟩) (v:= .bool false) rfl (by kernel_rfl) (by kernel_rfl) (by kernel_rfl) (fun _ _ _ h=>h) (Or.inl ⟨by kernel_rfl,?_⟩) (by assumption) ?_
  ·(intro w ks; (try dsimp only at ks); go_simp; (try omega))
  try simp only [Act.put,pa,pb,pc]
  refine bR [(3,8),(4,9),(5,10)] ?_
  iterate 3 (refine zt ?_; try simp only [Act.put,pa,pb,pc])
  refine bS ?_;refine wpAnyH_take (i:=6) (oi:=⟨some 11,_,_,_,_,_⟩) (v:= .bool false) rfl (by kernel_rfl) (by kernel_rfl) (by kernel_rfl) (fun _ _ _ h=>h) (Or.inl ⟨by kernel_rfl,?_⟩) (by assumption) ?_
  ·(intro w ks; (try dsimp only at ks); go_simp; (try omega))
  try simp only [Act.put,pa,pb,pc]
  refine bR [(7,12),(8,13),(9,14),(10,15)] ?_
  iterate 4 (refine zt ?_; try simp only [Act.put,pa,pb,pc])
  refine bS ?_;refine wpAnyH_take (i:=11) (oi:=⟨some 16,_,_,_,_,_⟩) (v:= .bool false) rfl (by kernel_rfl) (by kernel_rfl) (by kernel_rfl) (fun _ _ _ h=>h) (Or.inl ⟨by kernel_rfl,?_⟩) (by assumption) ?_
  ·(intro w ks; (try dsimp only at ks); go_simp; (try omega))
  try simp only [Act.put,pa,pb,pc]
  refine bR [(12,17),(13,18),(14,19),(15,20)] ?_
  iterate 4 (refine zt ?_; try simp only [Act.put,pa,pb,pc])
  refine bS ?_;refine wpAnyH_take (i:=16) (oi:=⟨some 21,_,_,_,_,_⟩) (v:= .bool false) rfl (by kernel_rfl) (by kernel_rfl) (by kernel_rfl) (fun _ _ _ h=>h) (Or.inl ⟨by kernel_rfl,?_⟩) (by assumption) ?_
  ·(intro w ks; (try dsimp only at ks); go_simp; (try omega))
  try simp only [Act.put,pa,pb,pc]
  refine bR [(17,22),(18,23),(19,24),(20,25),(21,26),(22,27),(23,28)] ?_
  iterate 7 (refine zt ?_; try simp only [Act.put,pa,pb,pc])
  refine bS ?_;refine cA (i:=24) (o:=⟨some 29,_,_,_,_,_⟩) fun K hK=>?_;go_simp
  go_at_call 149
  refine (KN.out _).mono ?_;rintro r w2 ⟨rfl,bT⟩;have P2:=xh (ao OD.out bT);go_simp;refine hK.out _ _ (HK.out _ P2.out) (fun aj=>?_)
  try simp only [Act.put,pa,pb,pc]
  refine wpAnyH_take (i:=25) (oi:=⟨some 30,_,_,_,_,_⟩) (v:= .bool true) rfl (by kernel_rfl) (by kernel_rfl) (by kernel_rfl) (fun _ _ _ h=>h) (Or.inl ⟨by kernel_rfl,?_⟩) (by assumption) ?_
  ·(intro w ks; (try dsimp only at ks); go_simp; (try omega))
  try simp only [Act.put,pa,pb,pc]
  refine bR [(26,31)] ?_
  iterate 1 (refine zt ?_; try simp only [Act.put,pa,pb,pc])
  refine bS ?_;refine wpAnyH_done (by kernel_rfl) ?_ _;have PP:=xh (ao O0.out P2.out);go_wp2_with fail;go_ret;refine ⟨?_,PP.out⟩
  cases b
  ·first | rfl | simp
  ·exfalso;have hr:=HB.out.1 rfl;have hl:=HL.out;unfold eQ at hr;rw [HND.out] at hr;omega
 ·replace KN:=xh (KN.out (by omega))
  obtain ⟨nd,wg⟩: ∃nd,iQ lg=nd:=⟨_,rfl⟩;have HND:=xh wg;rw [wg] at KN h5;clear wg;go_enter Tryz.func156,Tryz.ntmps156;go_wp2_with fail;generalize hW:(w.alloc (.cells #[.int .i64 ep,.int .i64 lg,.slice A n c] 155))=W at *;clear hW
  have HK:=xh (show ∀W',Below W.heap.size W W'→(W'.cell? ⟨w.heap.size,0,none⟩=some (.int .i64 ep)∧W'.cell? ⟨w.heap.size,1,none⟩=some (.int .i64 lg)∧W'.cell? ⟨w.heap.size,2,none⟩=some (.slice A n c)) from fun W' ho=>⟨(B0.out.below ho B0.out.lt).ab (i:=0) rfl,(B0.out.below ho B0.out.lt).ab (i:=1) rfl,(B0.out.below ho B0.out.lt).ab (i:=2) rfl⟩);have OD:=xh ((Below.refl W.heap.size W).drew)
  refine wp_region_held_drew (S:=fun W'=>W'.cell? ⟨w.heap.size,0,none⟩=some (.int .i64 ep)∧W'.cell? ⟨w.heap.size,1,none⟩=some (.int .i64 lg)∧W'.cell? ⟨w.heap.size,2,none⟩=some (.slice A n c)) (by kernel_rfl) (HK.out _ OD.out) (fun aj=>?_);refine bR [(0,5),(1,6)] ?_
  iterate 2 (refine zt ?_; try simp only [Act.put,pa,pb,pc])
  refine bS ?_;refine wpAnyH_take (i:=2) (oi:=⟨some 7,_,_,_,_,_⟩) (v:= .bool false) rfl (by kernel_rfl) (by kernel_rfl) (by kernel_rfl) (fun _ _ _ h=>h) (Or.inl ⟨by kernel_rfl,?_⟩) (by assumption) ?_
  ·(intro w ks; (try dsimp only at ks); go_simp; (try omega))
  try simp only [Act.put,pa,pb,pc]
  refine bR [(3,8),(4,9),(5,10)] ?_
  iterate 3 (refine zt ?_; try simp only [Act.put,pa,pb,pc])
  refine bS ?_;refine wpAnyH_take (i:=6) (oi:=⟨some 11,_,_,_,_,_⟩) (v:= .bool false) rfl (by kernel_rfl) (by kernel_rfl) (by kernel_rfl) (fun _ _ _ h=>h) (Or.inl ⟨by kernel_rfl,?_⟩) (by assumption) ?_
  ·(intro w ks; (try dsimp only at ks); go_simp; (try omega))
  try simp only [Act.put,pa,pb,pc]
  refine bR [(7,12),(8,13),(9,14),(10,15)] ?_
  iterate 4 (refine zt ?_; try simp only [Act.put,pa,pb,pc])
  refine bS ?_;refine wpAnyH_take (i:=11) (oi:=⟨some 16,_,_,_,_,_⟩) (v:= .bool false) rfl (by kernel_rfl) (by kernel_rfl) (by kernel_rfl) (fun _ _ _ h=>h) (Or.inl ⟨by kernel_rfl,?_⟩) (by assumption) ?_
  ·(intro w ks; (try dsimp only at ks); go_simp; (try omega))
  try simp only [Act.put,pa,pb,pc]
  refine bR [(12,17),(13,18),(14,19),(15,20)] ?_
  iterate 4 (refine zt ?_; try simp only [Act.put,pa,pb,pc])
  refine bS ?_;refine wpAnyH_take (i:=16) (oi:=⟨some 21,_,_,_,_,_⟩) (v:= .bool false) rfl (by kernel_rfl) (by kernel_rfl) (by kernel_rfl) (fun _ _ _ h=>h) (Or.inl ⟨by kernel_rfl,?_⟩) (by assumption) ?_
  ·(intro w ks; (try dsimp only at ks); go_simp; (try omega))
  try simp only [Act.put,pa,pb,pc]
  refine bR [(17,22),(18,23),(19,24),(20,25),(21,26),(22,27),(23,28)] ?_
  iterate 7 (refine zt ?_; try simp only [Act.put,pa,pb,pc])
  refine bS ?_;refine cA (i:=24) (o:=⟨some 29,_,_,_,_,_⟩) fun K hK=>?_;go_simp
  go_at_call 149
  refine (KN.out _).mono ?_;rintro r w2 ⟨rfl,bT⟩;have P2:=xh (ao OD.out bT);go_simp;refine hK.out _ _ (HK.out _ P2.out) (fun aj=>?_)
  try simp only [Act.put,pa,pb,pc]
  refine wpAnyH_take (i:=25) (oi:=⟨some 30,_,_,_,_,_⟩) (v:= .bool false) rfl (by kernel_rfl) (by kernel_rfl) (by kernel_rfl) (fun _ _ _ h=>h) (Or.inl ⟨by kernel_rfl,?_⟩) (by assumption) ?_
  ·(intro w ks; (try dsimp only at ks); go_simp; (try omega))
  try simp only [Act.put,pa,pb,pc]
  refine bR [(26,31)] ?_
  iterate 1 (refine zt ?_; try simp only [Act.put,pa,pb,pc])
  refine bS ?_;refine wpAnyH_done (by kernel_rfl) ?_ _;have PP:=xh (ao O0.out P2.out);have B2:=xh (B0.out.below P2.out B0.out.lt);have H2:=xh (H0.out.below P2.out);have y2:w2.cell? ⟨w.heap.size,2,none⟩=some (.slice A n c):=B2.out.ab (i:=2) rfl;go_wp2_with fail
  go_loopw [35] (fun iv wr=> ∃i:Nat,i≤n∧iv= .int .i64 i∧Hid (∀j x,j<i→l[j]?=some x→0≤x∧x≤1023∧x∉l.take j)∧wr=w2) (fun iv _=>n-(intOf iv).toNat)
  case atStart=>exact ⟨0,Nat.zero_le _,rfl,xh (fun j x h=>absurd h (Nat.not_lt_zero _)),rfl⟩
  case round=>
   obtain ⟨i,hi,rfl,HX,rfl⟩:=hrel
   by_cases h':i<n
   ·obtain ⟨ad,x,rfl,hx,ck⟩:=H2.out.at i h';have hiI:(i:Int)<(n:Int):=by omega
    have HXX:=xh hx;have HT:=xh (H2.out.take i (by omega));clear hx;have NO:=xh (show ¬(0≤x∧x≤1023∧x∉l.take i)→b=false from fun Jx=>by
     cases b
     ·rfl
     ·exact absurd ((HB.out.1 rfl).2.2.2.2.2 i x HXX.out) Jx)
    by_cases x0:x<0
    ·go_wp2_with fail;go_ret;refine ⟨?_,PP.out⟩;rw [NO.out (by omega)]; first | rfl | simp
    ·by_cases x1:1023<x
     ·go_wp2_with fail;go_ret;refine ⟨?_,PP.out⟩;rw [NO.out (by omega)]; first | rfl | simp
     ·obtain ⟨q,hq⟩:=bool_of (x∈l.take i);have KC:=xh (ye (w:=wr) (some ad) i c (l.take i) x HT.out (by omega) q hq);have HQ:=xh hq;have hc:(i:Int)≤(c:Int):=by omega
      clear hq;go_wp2_with fail;refine KC.out.mono ?_;rintro e w3 ⟨rfl,rfl⟩
      cases q
      ·have HX2:=xh (show ∀j z,j<i+1→l[j]?=some z→0≤z∧z≤1023∧z∉l.take j from fun j z hj hz=>by
        rcases Nat.lt_succ_iff_lt_or_eq.1 hj with h1 | rfl
        ·exact HX.out j z h1 hz
        ·rw [HXX.out] at hz; injection hz with hz; subst hz
         exact ⟨by omega,by omega,fun hm=>by have:=HQ.out.2 hm; cases this⟩)
       go_wp2_with fail;go_roundw
       case rel=>exact ⟨i+1,by omega,by go_num,HX2,by first | rfl | trivial⟩
       case measure=>simp [intOf]; omega
      ·go_wp2_with fail;go_ret;refine ⟨?_,PP.out⟩;rw [NO.out (fun hx=>hx.2.2 (HQ.out.1 (by trivial)))]; first | rfl | simp
   ·obtain rfl:i=n:=by omega
    go_wp2_with fail;go_ret;refine ⟨?_,PP.out⟩;have:eQ ep lg l:=⟨by omega,by omega,by omega,by omega,by rw [HND.out,HL.out]; exact h5,fun j x hx=>HX.out j x (by have:=(List.getElem?_eq_some_iff.1 hx).1; rw [HL.out] at this; exact this) hx⟩;rw [HB.out.2 this]; first | rfl | simp
end Go.Proofs.YtmonobkginiajaaGreat.Rt
namespace Go.Proofs.YtmonobkginiajaaGreat.Rt
open Go.RowKit Pk
attribute [local go_sem ↓] Go.wp_at_zero Go.wp_at_succ aX
def dD (n:Nat):List UInt8:=[UInt8.ofNat (n / 256),UInt8.ofNat n]
theorem yf {P:Program} {w:World} {e:TypeId} {v:Value} {n:Nat} {l:List Value} (S:aG w e 1 v n l)
  (T ty:TypeId) (z:Value) (bytes:Nat) (ht:P.underlying T=some (.slice e)) (kn:(P.info? e).map (fun i=>(i.zero,i.size,i.bytes))=some (some z,1,bytes)) (hz:z.cells.size=1)
  (news:List Value) (hx: ∀u∈news,u.oneCell'=true) (zg:n+news.length≤maxLen) (hb:(n+news.length)*bytes≤140737488355328):
  ∃v' w',dI P T ty (w.alloc (.cells news.toArray e)) v (.slice (some ⟨w.heap.size,0,none⟩) news.length news.length)= .ok v' w'∧aG w' e 1 v' (n+news.length) (l++news)∧ag (ah v) w w'∧(∀g∈ah v',g∈ah v∨w.heap.size≤g):=by
 obtain ⟨i0,hi,iL,gM,iw⟩:=info_parts kn;obtain ⟨v',w',h1,h2,h3,h4⟩:=cN (P:=P) (S.alloc (.cells news.toArray e)) T ty i0 z bytes ht hi iL gM iw hz (by omega)
  ⟨w.heap.size,0,none⟩ news.length news.length news (by simp) (aV (l:=news) (ax.new w e news.toArray) 0 _ (by intro j u hu; rw [Nat.zero_add]; exact hu)) hx zg hb
 exact ⟨v',w',h1,h2,((ag.refl _ _).alloc _).aS h3 (fun x hx _=>hx),fun g hg=>(h4 g hg).imp id (fun h=>by simp at h; omega)⟩
theorem dG {w:World} (v:Value) (k:Nat) (l:List UInt8) (S:aG w 5 1 v k (cI l)) (n:Nat) (hn:n≤65535) (hk:k≤1000):
  Calls Tryz.prog 157 #[v,.int .i64 (n:Nat)] w fun e w'=>(∃v',e= .returned v'∧aG w' 5 1 v' (k+2) (cI (l++dD n))∧(∀g∈ah v',g∈ah v∨w.heap.size≤g))∧ag (ah v) w w':=by
 obtain ⟨A,c,rfl⟩:=aq S;have e0:Value.int .u8 ((n:Int) / 256)=bv (UInt8.ofNat (n / 256)):=by
  unfold bv
  congr 1
  rw [UInt8.toNat_ofNat'];omega
 have e1:Value.int .u8 ((n:Int) % 256)=bv (UInt8.ofNat n):=by
  unfold bv;rfl
 obtain ⟨v',w2,ea,S2,ow,fr⟩:=yf (P:=Tryz.prog) S 150 150 (.int .u8 0) 1 Tryz.underlying150 gx.dg rfl [.int .u8 ((n:Int) / 256),.int .u8 ((n:Int) % 256)] (by intro u hu; simp at hu; rcases hu with rfl | rfl<;>rfl) (by simp; unfold maxLen; omega) (by simp; omega);obtain ⟨V2,fu,rfl⟩:=aq S2
 have EA:=xh (show dI Tryz.prog 150 150 (w.alloc (.cells #[.int .u8 ((n:Int) / 256),.int .u8 ((n:Int) % 256)] 5)) (.slice A k c) (.slice (some ⟨w.heap.size,0,none⟩) 2 2)= .ok (.slice V2 (k+2) fu) w2 from ea);have SX:=xh (show aG w2 5 1 (.slice V2 (k+2) fu) (k+2) (cI (l++dD n)) from by
  rw [e0,e1] at S2;rw [bU];exact S2)
 have OX:=xh ow;have FX:=xh fr;have m1:IntKind.u8.wrap ((n:Int) / 256)=(n:Int) / 256:=IntWalk.u8_in _ (by omega);clear ea S2 ow fr S e0 e1;go_enter Tryz.func157,Tryz.ntmps157;go_wp2_with fail;rw [EA.out];go_wp2_with fail;go_ret;exact ⟨⟨_,rfl,SX.out,FX.out⟩,OX.out⟩
def kh (lg:Nat) (l:List Nat):List UInt8:=(dD lg++dD l.length++(l++List.replicate (5-l.length) 0).flatMap dD)++List.replicate 30 0
def dF (ep:Int) (lg:Nat) (l:List Nat):List UInt8:=dR ep++gx.aY (kh lg l)++dR ep
end Go.Proofs.YtmonobkginiajaaGreat.Rt
namespace Go.Proofs.YtmonobkginiajaaGreat.Rt
open Go.RowKit Pk
attribute [local go_sem ↓] Go.wp_at_zero Go.wp_at_succ aX
def lenV:Value→Nat
 | .slice _ n _=>n
 | _=>0
theorem Jy (a0 a1 a2 a3 a4:Int) (w:World) (k:Nat) (x:Value) (hx: #[Value.int .i64 a0,.int .i64 a1,.int .i64 a2,.int .i64 a3,.int .i64 a4][k]?=some x):
  (Instr.index 231 (.agg #[.int .i64 a0,.int .i64 a1,.int .i64 a2,.int .i64 a3,.int .i64 a4]) (.int .i64 (k:Int))).run Tryz.prog w= .ok x w:=by
 have hu:Tryz.prog.underlying 231=some (.array 5 3):=by kernel_rfl
 have hm:(Tryz.prog.info? 3).map (·.size)=some 1:=by kernel_rfl
 have hp:Tryz.prog.plainKey 3=true:=by kernel_rfl
 have hk:k<5:=by
  rcases Nat.lt_or_ge k 5 with h | h
  ·exact h
  ·rw [Array.getElem?_eq_none (by simpa using h)] at hx; cases hx
 cases hq:Tryz.prog.info? 3 with
 | none=>simp [hq] at hm
 | some i=>
  simp only [hq,Option.map_some,Option.some.injEq] at hm;have:=run_part_plain (P:=Tryz.prog) w hp hx;simp [Instr.index,asIntOf,run_underlying hu,hk,sizeOf,typeInfo,hq,hm];exact this
def cD (l:List Nat):List Int:=l.map Int.ofNat
def Jz (l:List Nat):List Value:=l.map fun (x:Nat)=>Value.int .i64 (x:Int)
theorem Cz {W:World} {g:Nat} {A:Option Addr} {n c:Nat} {l:List Nat} (B:ax W g 231 #[.int .i64 0,.int .i64 0,.int .i64 0,.int .i64 0,.int .i64 0]) (H:gr W A n (cD l)) (hl:l.length=n) (hn:n≤5):
  ∃w',(Builtin.copy_ #[60,60] 3 #[.slice (some ⟨g,0,none⟩) 5 5,.slice A n c]).run Tryz.prog W= .ok (goInt n) w'∧ax w' g 231 (Jz (l++List.replicate (5-l.length) 0)).toArray∧ag [g] W w':=by
 cases A with
 | none=>
  have h0:n=0:=by
   by_cases h0:n=0
   ·exact h0
   ·obtain ⟨ad,x,h1,_⟩:=H.at 0 (by omega)
    cases h1
  subst h0;have EJ:l=[]:=List.eq_nil_of_length_eq_zero hl;subst EJ;refine ⟨W,?_,B,ag.refl _ _⟩;simp [Builtin.copy_,run_underlying Tryz.underlying60,Builtin.lenOf,Builtin.firstCells,storeCells]
 | some ad=>
  have hlen:(Jz l).length=n:=by simp [Jz,hl]
  obtain ⟨w',e,B',o⟩:=sI (P:=Tryz.prog) (cur:=[.int .i64 0,.int .i64 0,.int .i64 0,.int .i64 0,.int .i64 0]) B 60 60 3 3 0 5 5 ad n c (Jz l) Tryz.underlying60 (by kernel_rfl) (by rw [hlen]; exact (Nat.min_eq_left hn).symm)
   (fun j v hv=>by
    have hj:j<l.length:=by have:=(List.getElem?_eq_some_iff.1 hv).1; simpa [Jz] using this
    have hx:(cD l)[j]?=some (Int.ofNat l[j]):=by simp [cD,List.getElem?_eq_getElem hj]
    obtain ⟨ad',e1,h1⟩:=H.2 j _ hx;injection e1 with e1
    subst e1;simp only [Jz,List.getElem?_map,List.getElem?_eq_getElem hj,Option.map_some,Option.some.injEq] at hv;subst hv;exact h1) (by rw [hlen]; exact (by omega:0+n≤5)) (by intro v hv; simp only [Jz,List.mem_map] at hv; obtain ⟨x,_,rfl⟩:=hv; rfl)
  rw [hlen] at e;refine ⟨w',e,?_,o⟩;have:putAt [.int .i64 0,.int .i64 0,.int .i64 0,.int .i64 0,.int .i64 0] 0 (Jz l)=Jz (l++List.replicate (5-l.length) 0):=by
   unfold putAt;rw [List.take_zero,List.nil_append,Nat.zero_add,hlen,hl];have hz:([.int .i64 0,.int .i64 0,.int .i64 0,.int .i64 0,.int .i64 0]:List Value).drop n=Jz (List.replicate (5-n) 0):=by
    rcases (show n=0∨n=1∨n=2∨n=3∨n=4∨n=5 by omega) with rfl | rfl | rfl | rfl | rfl | rfl<;>rfl
   rw [hz];simp [Jz]
  rw [←this]; exact B'
theorem zC {w:World} (ep:Int) (lg:Nat) (A:Option Addr) (n c:Nat) (l:List Nat) (h:gr w A n (cD l)) (FO:n≤c) (hr:eQ ep lg (cD l)):
  Calls Tryz.prog 102 #[wG ep lg A n c] w fun e w'=>e= .returned (.tuple #[.string ⟨(dF ep lg l).toArray⟩,.int .i64 0])∧Below w.heap.size w w':=by
 have hn5:=iz hr;have oN:l.length=n:=by have:=h.1; simpa [cD] using this
 have hn:n≤5:=by rw [←oN]; simpa [cD] using hn5
 have hlg:lg≤512:=by have:=hr.2.2.2.1; omega
 have O0:=ae (Below.refl w.heap.size w) (.cells #[.int .i64 ep,.int .i64 (lg:Int),.slice A n c] 155);have B0:=xh (ax.new w 155 #[.int .i64 ep,.int .i64 (lg:Int),.slice A n c]);have H0:=xh (h.below O0);have KR:=xh (qf (w:=w.alloc (.cells #[.int .i64 ep,.int .i64 (lg:Int),.slice A n c] 155)) ep lg A n c (cD l) H0.out (by omega) FO true (by simp [hr]));have O0:=xh O0;have HR:=xh hr;have lB:=xh oN;clear h hr hn5;unfold wG at *
 go_enter Tryz.func102,Tryz.ntmps102;go_wp2_with fail;generalize hW:(w.alloc (.cells #[.int .i64 ep,.int .i64 (lg:Int),.slice A n c] 155))=W at *;clear hW;refine KR.out.mono ?_;rintro e w1 ⟨rfl,aM⟩;have O1:=xh (ao O0.out aM);have B1:=xh (B0.out.below aM B0.out.lt);have H1:=xh (H0.out.below aM);clear aM KR;go_wp2_with fail
 have HK:=xh (show ∀W',Below w1.heap.size w1 W'→(W'.cell? ⟨w.heap.size,0,none⟩=some (.int .i64 ep)∧W'.cell? ⟨w.heap.size,1,none⟩=some (.int .i64 (lg:Int))∧W'.cell? ⟨w.heap.size,2,none⟩=some (.slice A n c)) from fun W' ho=>⟨(B1.out.below ho B1.out.lt).ab (i:=0) rfl,(B1.out.below ho B1.out.lt).ab (i:=1) rfl,(B1.out.below ho B1.out.lt).ab (i:=2) rfl⟩);have OD:=xh ((Below.refl w1.heap.size w1).drew)
 refine wp_region_held_drew (S:=fun W'=>W'.cell? ⟨w.heap.size,0,none⟩=some (.int .i64 ep)∧W'.cell? ⟨w.heap.size,1,none⟩=some (.int .i64 (lg:Int))∧W'.cell? ⟨w.heap.size,2,none⟩=some (.slice A n c)) (by kernel_rfl) (HK.out _ OD.out) (fun aj=>?_);refine bR [(0,12),(1,13),(3,15),(4,16),(5,17)] ?_
 iterate 5 (refine zt ?_; try simp only [Act.put,pa,pb,pc])
 refine bS ?_;refine cA (i:=2) (o:=⟨some 14,_,_,_,_,_⟩) fun K hK=>?_;go_simp
 go_at_call 157
 refine (dG _ 0 [] (aG.nil _ _ _) lg (by omega) (by omega)).mono ?_;rintro r w2 ⟨⟨v2,rfl,S2,F2⟩,o2⟩;have P2:=xh (OD.out.trans (o2.ay OD.out.size (by simp [ah])));have F2:=xh (show ∀g∈ah v2,w1.heap.size≤g from fun g hg=>(F2 g hg).elim (fun h=>by simp [ah] at h) (fun h=>Nat.le_trans OD.out.size h));go_simp;refine hK.out _ _ (HK.out _ P2.out) (fun aj=>?_)
 try simp only [Act.put,pa,pb,pc]
 refine cA (i:=6) (o:=⟨some 18,_,_,_,_,_⟩) fun K hK=>?_;go_simp
 go_at_call 157
 refine (dG _ 2 _ S2 n (by omega) (by omega)).mono ?_;rintro r w3 ⟨⟨v3,rfl,S3,F3⟩,o3⟩;have P3:=xh (P2.out.trans (o3.ay P2.out.size F2.out));have F3:=xh (show ∀g∈ah v3,w1.heap.size≤g from fun g hg=>(F3 g hg).elim (F2.out g) (fun h=>Nat.le_trans P2.out.size h));go_simp;refine hK.out _ _ (HK.out _ P3.out) (fun aj=>?_)
 try simp only [Act.put,pa,pb,pc]
 refine bR [(7,4)] ?_
 iterate 1 (refine zt ?_; try simp only [Act.put,pa,pb,pc])
 refine bS ?_;refine wpAnyH_done (by kernel_rfl) ?_ _;have O3:=xh (ao O1.out P3.out);have B3:=xh (B1.out.below P3.out B1.out.lt);have H3:=xh (H1.out.below P3.out);have S3:=xh S3;obtain ⟨V3,c3,rfl⟩:=aq S3.out;have F3:=xh (show ∀g∈ah (.slice V3 4 c3),w.heap.size+1≤g from fun g hg=>Nat.le_trans (by have:=B1.out.lt; omega) (F3.out g hg));clear aj o2 o3 S2 P2 P3 F2 OD HK
 have BA:=xh (ax.new w3 231 #[.int .i64 0,.int .i64 0,.int .i64 0,.int .i64 0,.int .i64 0]);have O4:=xh (ae O3.out (.cells #[.int .i64 0,.int .i64 0,.int .i64 0,.int .i64 0,.int .i64 0] 231));have B4:=xh (B3.out.alloc (.cells #[.int .i64 0,.int .i64 0,.int .i64 0,.int .i64 0,.int .i64 0] 231));have S4:=xh (S3.out.alloc (.cells #[.int .i64 0,.int .i64 0,.int .i64 0,.int .i64 0,.int .i64 0] 231))
 have H4:=xh (H3.out.below (ae (Below.refl _ _) (.cells #[.int .i64 0,.int .i64 0,.int .i64 0,.int .i64 0,.int .i64 0] 231)));go_wp2_with fail;generalize hW:(w3.alloc _)=w4 at *;have W3LT:=B4.out.lt;have HK:=xh (show ∀W',ag [w3.heap.size] w4 W'→(W'.cell? ⟨w.heap.size,0,none⟩=some (.int .i64 ep)∧W'.cell? ⟨w.heap.size,1,none⟩=some (.int .i64 (lg:Int))∧W'.cell? ⟨w.heap.size,2,none⟩=some (.slice A n c)) from fun W' ho=>by
  have eg:w.heap.size∉[w3.heap.size]:=by have:=B3.out.lt; simp; omega
  have B:=B4.out.only ho eg;exact ⟨B.ab (i:=0) rfl,B.ab (i:=1) rfl,B.ab (i:=2) rfl⟩)
 have OD:=xh ((ag.refl [w3.heap.size] w4).drew);refine wp_region_held_drew (S:=fun W'=>W'.cell? ⟨w.heap.size,0,none⟩=some (.int .i64 ep)∧W'.cell? ⟨w.heap.size,1,none⟩=some (.int .i64 (lg:Int))∧W'.cell? ⟨w.heap.size,2,none⟩=some (.slice A n c)) (by kernel_rfl) (HK.out _ OD.out) (fun aj=>?_);refine bR [(0,19),(1,20),(2,21)] ?_
 iterate 3 (refine zt ?_; try simp only [Act.put,pa,pb,pc])
 refine bS ?_;refine cA (i:=3) (o:=⟨some 22,_,_,_,_,_⟩) fun K hK=>?_;obtain ⟨w5,ec,BQ,oc⟩:=Cz (W:=w4.drew) BA.out (show gr w4.drew A n (cD l) from H4.out.below (Below.refl _ _).drew) lB.out hn;have EC:=xh ec;have OC:=xh (OD.out.trans oc);have BQ:=xh BQ;clear ec oc;go_simp;rw [EC.out];go_simp;refine hK.out _ _ (HK.out _ OC.out) (fun aj=>?_)
 try simp only [Act.put,pa,pb,pc]
 refine wpAnyH_done (by kernel_rfl) ?_ _;have hq5:(l++List.replicate (5-l.length) 0).length=5:=by rw [List.length_append,List.length_replicate]; have:=lB.out; omega
 have hqs: ∀x∈l++List.replicate (5-l.length) 0,x≤1023:=by
  intro x hx
  rcases List.mem_append.1 hx with hx | hx
  ·obtain ⟨i,hi,rfl⟩:=List.getElem_of_mem hx;have h1:=HR.out.2.2.2.2.2 i ((l[i]:Nat):Int) (by simp [cD]; exact ⟨l[i],List.getElem?_eq_getElem hi,rfl⟩);omega
  ·have:=List.eq_of_mem_replicate hx; omega
 obtain ⟨q,hqq⟩: ∃q,l++List.replicate (5-l.length) 0=q:=⟨_,rfl⟩;have HQQ:=xh hqq;rw [hqq] at BQ hq5 hqs;clear hqq
 match q,hq5 with
 | [q0,q1,q2,q3,q4],_=>
 have p0:q0≤1023:=hqs _ (by simp);have p1:q1≤1023:=hqs _ (by simp);have p2:q2≤1023:=hqs _ (by simp);have p3:q3≤1023:=hqs _ (by simp);have p4:q4≤1023:=hqs _ (by simp);have a0:w5.cell? ⟨w3.heap.size,0,none⟩=some (.int .i64 (q0:Int)):=BQ.out.ab (i:=0) rfl;have a1:w5.cell? ⟨w3.heap.size,1,none⟩=some (.int .i64 (q1:Int)):=BQ.out.ab (i:=1) rfl;have a2:w5.cell? ⟨w3.heap.size,2,none⟩=some (.int .i64 (q2:Int)):=BQ.out.ab (i:=2) rfl
 have a3:w5.cell? ⟨w3.heap.size,3,none⟩=some (.int .i64 (q3:Int)):=BQ.out.ab (i:=3) rfl;have a4:w5.cell? ⟨w3.heap.size,4,none⟩=some (.int .i64 (q4:Int)):=BQ.out.ab (i:=4) rfl;have zb:w.heap.size<w3.heap.size:=B3.out.lt;have O5:=xh (O4.out.trans (OC.out.ay O4.out.size (fun x hx=>by simp at hx; omega)));have B5:=xh (B4.out.only OC.out (by simp; omega));have S5:=xh (S4.out.only OC.out (fun x hx=>by have:=S3.out.lt x hx; simp; omega));clear aj hqs OD HK
 go_wp2_with fail;obtain ⟨HD,hHD⟩: ∃HD,[]++dD lg++dD n=HD:=⟨_,rfl⟩;have HHD:=xh hHD;rw [hHD] at S5;clear hHD a0 a1 a2 a3 a4 S4 S3
 go_loopw [4,24] (fun sv iv wr=> ∃k:Nat,k≤5∧iv= .int .i64 (k:Int)∧aG wr 5 1 sv (4+2*k) (cI (HD++([q0,q1,q2,q3,q4].take k).flatMap dD))∧Hid (ax wr w.heap.size 155 #[.int .i64 ep,.int .i64 (lg:Int),.slice A n c])∧Below w.heap.size w wr∧Hid (∀x∈ah sv,w.heap.size+1≤x)) (fun _ iv _=>5-(intOf iv).toNat)
 case atStart=>exact ⟨0,by omega,rfl,by simpa using S5.out,B5,O5.out,F3⟩
 case round=>
  obtain ⟨k,hk,rfl,S,C,O,F⟩:=hrel;obtain ⟨VA,vc,rfl⟩:=aq S
  rcases (show k=0∨k=1∨k=2∨k=3∨k=4∨k=5 from by omega) with rfl | rfl | rfl | rfl | rfl | rfl
  ·have K:=xh (dG _ 4 _ S q0 (by omega) (by omega));have OO:=xh O;have IX:=xh (show (Instr.index 231 (.agg #[.int .i64 (q0:Int),.int .i64 (q1:Int),.int .i64 (q2:Int),.int .i64 (q3:Int),.int .i64 (q4:Int)]) (.int .i64 0)).run Tryz.prog wr= .ok (.int .i64 (q0:Int)) wr from Jy q0 q1 q2 q3 q4 wr 0 _ rfl);clear S O;go_wp2_with fail;rw [IX.out];go_wp2_with fail;refine K.out.mono ?_;rintro r w7 ⟨⟨v7,rfl,S7,F7⟩,o7⟩
   have O7:=xh (OO.out.trans (o7.ay OO.out.size (fun x hx=>by have:=F.out x hx; omega)));have C7:=xh (C.out.only o7 (fun hx=>by have:=F.out _ hx; omega));have F7:=xh (show ∀x∈ah v7,w.heap.size+1≤x from fun x hx=>(F7 x hx).elim (F.out x) (fun h=>by have:=C.out.lt; omega));have S7:=xh (show aG w7 5 1 v7 (4+2*(0+1)) (cI (HD++([q0,q1,q2,q3,q4].take (0+1)).flatMap dD)) from by
    have hx:HD++([q0,q1,q2,q3,q4].take (0+1)).flatMap dD=(HD++([q0,q1,q2,q3,q4].take 0).flatMap dD)++dD q0:=by simp
    rw [hx]; exact S7)
   obtain ⟨V7,c7,rfl⟩:=aq S7.out;clear o7;go_wp2_with fail;go_roundw
   case rel=>exact ⟨0+1,by omega,by first | rfl | go_num,S7.out,C7,O7.out,F7⟩
   case measure=>simp [intOf]
  ·have K:=xh (dG _ 6 _ S q1 (by omega) (by omega));have OO:=xh O;have IX:=xh (show (Instr.index 231 (.agg #[.int .i64 (q0:Int),.int .i64 (q1:Int),.int .i64 (q2:Int),.int .i64 (q3:Int),.int .i64 (q4:Int)]) (.int .i64 1)).run Tryz.prog wr= .ok (.int .i64 (q1:Int)) wr from Jy q0 q1 q2 q3 q4 wr 1 _ rfl);clear S O;go_wp2_with fail;rw [IX.out];go_wp2_with fail;refine K.out.mono ?_;rintro r w7 ⟨⟨v7,rfl,S7,F7⟩,o7⟩
   have O7:=xh (OO.out.trans (o7.ay OO.out.size (fun x hx=>by have:=F.out x hx; omega)));have C7:=xh (C.out.only o7 (fun hx=>by have:=F.out _ hx; omega));have F7:=xh (show ∀x∈ah v7,w.heap.size+1≤x from fun x hx=>(F7 x hx).elim (F.out x) (fun h=>by have:=C.out.lt; omega));have S7:=xh (show aG w7 5 1 v7 (4+2*(1+1)) (cI (HD++([q0,q1,q2,q3,q4].take (1+1)).flatMap dD)) from by
    have hx:HD++([q0,q1,q2,q3,q4].take (1+1)).flatMap dD=(HD++([q0,q1,q2,q3,q4].take 1).flatMap dD)++dD q1:=by simp
    rw [hx]; exact S7)
   obtain ⟨V7,c7,rfl⟩:=aq S7.out;clear o7;go_wp2_with fail;go_roundw
   case rel=>exact ⟨1+1,by omega,by first | rfl | go_num,S7.out,C7,O7.out,F7⟩
   case measure=>simp [intOf]
  ·have K:=xh (dG _ 8 _ S q2 (by omega) (by omega));have OO:=xh O;have IX:=xh (show (Instr.index 231 (.agg #[.int .i64 (q0:Int),.int .i64 (q1:Int),.int .i64 (q2:Int),.int .i64 (q3:Int),.int .i64 (q4:Int)]) (.int .i64 2)).run Tryz.prog wr= .ok (.int .i64 (q2:Int)) wr from Jy q0 q1 q2 q3 q4 wr 2 _ rfl);clear S O;go_wp2_with fail;rw [IX.out];go_wp2_with fail;refine K.out.mono ?_;rintro r w7 ⟨⟨v7,rfl,S7,F7⟩,o7⟩
   have O7:=xh (OO.out.trans (o7.ay OO.out.size (fun x hx=>by have:=F.out x hx; omega)));have C7:=xh (C.out.only o7 (fun hx=>by have:=F.out _ hx; omega));have F7:=xh (show ∀x∈ah v7,w.heap.size+1≤x from fun x hx=>(F7 x hx).elim (F.out x) (fun h=>by have:=C.out.lt; omega));have S7:=xh (show aG w7 5 1 v7 (4+2*(2+1)) (cI (HD++([q0,q1,q2,q3,q4].take (2+1)).flatMap dD)) from by
    have hx:HD++([q0,q1,q2,q3,q4].take (2+1)).flatMap dD=(HD++([q0,q1,q2,q3,q4].take 2).flatMap dD)++dD q2:=by simp
    rw [hx]; exact S7)
   obtain ⟨V7,c7,rfl⟩:=aq S7.out;clear o7;go_wp2_with fail;go_roundw
   case rel=>exact ⟨2+1,by omega,by first | rfl | go_num,S7.out,C7,O7.out,F7⟩
   case measure=>simp [intOf]
  ·have K:=xh (dG _ 10 _ S q3 (by omega) (by omega));have OO:=xh O;have IX:=xh (show (Instr.index 231 (.agg #[.int .i64 (q0:Int),.int .i64 (q1:Int),.int .i64 (q2:Int),.int .i64 (q3:Int),.int .i64 (q4:Int)]) (.int .i64 3)).run Tryz.prog wr= .ok (.int .i64 (q3:Int)) wr from Jy q0 q1 q2 q3 q4 wr 3 _ rfl);clear S O;go_wp2_with fail;rw [IX.out];go_wp2_with fail;refine K.out.mono ?_;rintro r w7 ⟨⟨v7,rfl,S7,F7⟩,o7⟩
   have O7:=xh (OO.out.trans (o7.ay OO.out.size (fun x hx=>by have:=F.out x hx; omega)));have C7:=xh (C.out.only o7 (fun hx=>by have:=F.out _ hx; omega));have F7:=xh (show ∀x∈ah v7,w.heap.size+1≤x from fun x hx=>(F7 x hx).elim (F.out x) (fun h=>by have:=C.out.lt; omega));have S7:=xh (show aG w7 5 1 v7 (4+2*(3+1)) (cI (HD++([q0,q1,q2,q3,q4].take (3+1)).flatMap dD)) from by
    have hx:HD++([q0,q1,q2,q3,q4].take (3+1)).flatMap dD=(HD++([q0,q1,q2,q3,q4].take 3).flatMap dD)++dD q3:=by simp
    rw [hx]; exact S7)
   obtain ⟨V7,c7,rfl⟩:=aq S7.out;clear o7;go_wp2_with fail;go_roundw
   case rel=>exact ⟨3+1,by omega,by first | rfl | go_num,S7.out,C7,O7.out,F7⟩
   case measure=>simp [intOf]
  ·have K:=xh (dG _ 12 _ S q4 (by omega) (by omega));have OO:=xh O;have IX:=xh (show (Instr.index 231 (.agg #[.int .i64 (q0:Int),.int .i64 (q1:Int),.int .i64 (q2:Int),.int .i64 (q3:Int),.int .i64 (q4:Int)]) (.int .i64 4)).run Tryz.prog wr= .ok (.int .i64 (q4:Int)) wr from Jy q0 q1 q2 q3 q4 wr 4 _ rfl);clear S O;go_wp2_with fail;rw [IX.out];go_wp2_with fail;refine K.out.mono ?_;rintro r w7 ⟨⟨v7,rfl,S7,F7⟩,o7⟩
   have O7:=xh (OO.out.trans (o7.ay OO.out.size (fun x hx=>by have:=F.out x hx; omega)));have C7:=xh (C.out.only o7 (fun hx=>by have:=F.out _ hx; omega));have F7:=xh (show ∀x∈ah v7,w.heap.size+1≤x from fun x hx=>(F7 x hx).elim (F.out x) (fun h=>by have:=C.out.lt; omega));have S7:=xh (show aG w7 5 1 v7 (4+2*(4+1)) (cI (HD++([q0,q1,q2,q3,q4].take (4+1)).flatMap dD)) from by
    have hx:HD++([q0,q1,q2,q3,q4].take (4+1)).flatMap dD=(HD++([q0,q1,q2,q3,q4].take 4).flatMap dD)++dD q4:=by simp
    rw [hx]; exact S7)
   obtain ⟨V7,c7,rfl⟩:=aq S7.out;clear o7;go_wp2_with fail;go_roundw
   case rel=>exact ⟨4+1,by omega,by first | rfl | go_num,S7.out,C7,O7.out,F7⟩
   case measure=>simp [intOf]
  ·have OO:=xh O;have SS:=xh (show aG wr 5 1 (.slice VA 14 vc) 14 (cI (HD++[q0,q1,q2,q3,q4].flatMap dD)) from S);clear S O;go_wp2_with fail;obtain ⟨M,hM⟩: ∃M,HD++[q0,q1,q2,q3,q4].flatMap dD=M:=⟨_,rfl⟩;have HM:=xh (show M++List.replicate 30 0=kh lg l from by
    unfold kh;rw [←hM,←HHD.out,HQQ.out,lB.out,List.nil_append])
   rw [hM] at SS;clear hM
   go_loopw [4] (fun sv wx=> ∃j:Nat,j≤30∧aG wx 5 1 sv (14+j) (cI (M++List.replicate j 0))∧Hid (ax wx w.heap.size 155 #[.int .i64 ep,.int .i64 (lg:Int),.slice A n c])∧Below w.heap.size w wx∧Hid (∀x∈ah sv,w.heap.size+1≤x)) (fun sv _=>44-lenV sv)
   case atStart=>exact ⟨0,by omega,by simpa using SS.out,C,OO.out,F⟩
   case round=>
    obtain ⟨j,hj,S,C,O,F⟩:=hrel;obtain ⟨VB,vb,rfl⟩:=aq S
    by_cases h:j<30
    ·have h1:(14:Int)+(j:Int)<44:=by omega
     have h2:14+j<44:=by omega
     have h3:((14+j:Nat):Int)<44:=by omega
     obtain ⟨v8,w8,ea,S8,o8,f8⟩:=cd (P:=Tryz.prog) S 150 150 (.int .u8 0) 1 Tryz.underlying150 gx.dg rfl (.int .u8 0) rfl (by unfold maxLen; omega) (by omega);obtain ⟨V8,c8,rfl⟩:=aq S8;have EA:=xh ea;have S9:=xh (show aG w8 5 1 (.slice V8 (14+(j+1)) c8) (14+(j+1)) (cI (M++List.replicate (j+1) 0)) from by
      rw [List.replicate_succ',←List.append_assoc,bU];exact S8)
     have O8:=xh (O.trans (o8.ay O.size (fun x hx=>by have:=F.out x hx; omega)));have C8:=xh (C.out.only o8 (fun hx=>by have:=F.out _ hx; omega));have F8:=xh (show ∀x∈ah (.slice V8 (14+(j+1)) c8),w.heap.size+1≤x from fun x hx=>(f8 x hx).elim (F.out x) (fun h=>by have:=C.out.lt; omega));clear ea S8 o8 f8 S O;go_wp2_with fail;rw [EA.out];go_wp2_with fail;go_roundw
     case rel=>exact ⟨_,_,_,_,_,_,_,⟨j+1,by omega,S9.out,C8,O8.out,F8⟩,rfl⟩
     case measure=>simp [lenV]; omega
    ·obtain rfl:j=30:=by omega
     have h2: ¬((14+30:Nat):Int)<44:=by omega
     rw [HM.out] at S;obtain ⟨gB,cap,rest,hv,BB,_,_⟩:=S.form (by omega) (by omega);simp only [Value.slice.injEq,true_and] at hv;obtain ⟨rfl,rfl⟩:=hv;have ST:=xh (bs (P:=Tryz.prog) wr 150 9 5 Tryz.underlying150 Tryz.underlying5 Tryz.underlying9 ⟨gB,0,none⟩ 44 vb (kh lg l) (by have:=S.1; simpa using this) (aV BB 0 _ (by intro j u hu; rw [Nat.zero_add]; exact List.getElem?_append_left (List.getElem?_eq_some_iff.1 hu).1▸hu)))
     have nj:(kh lg l).length=44:=by have:=S.1; simpa using this
     obtain ⟨T,hT⟩: ∃T:ByteArray,(⟨(kh lg l).toArray⟩:ByteArray)=T:=⟨_,rfl⟩;have hTz:T.size=44:=by rw [←hT]; show (kh lg l).toArray.size=44; simpa using nj
     have BU:T.data.toList=kh lg l:=by rw [←hT]
     rw [hT] at ST;have KY:=xh (gx.sg T wr (by omega));rw [BU] at KY;have OO9:=xh O;have hlen48:(gx.aY (kh lg l)).length=48:=by unfold gx.aY; simp [gx.gi,nj]
     have rW:(dR ep).length=8:=by unfold dR p7; rw [kQ]
     obtain ⟨L,hL⟩: ∃L:ByteArray,(⟨(gx.aY (kh lg l)).toArray⟩:ByteArray)=L:=⟨_,rfl⟩;obtain ⟨PI,hPI⟩: ∃L:ByteArray,(⟨(dR ep).toArray⟩:ByteArray)=L:=⟨_,rfl⟩;have hLz:L.size=48:=by rw [←hL]; show (gx.aY (kh lg l)).toArray.size=48; simpa using hlen48
     have hPz:PI.size=8:=by rw [←hPI]; show (dR ep).toArray.size=8; simpa using rW
     have JA:=xh (show PI++L++PI=(⟨(dF ep lg l).toArray⟩:ByteArray) from by
      rw [←hL,←hPI];apply ByteArray.ext;apply Array.toList_inj.1;unfold dF;simp)
     rw [hL] at KY;have KI:=xh (fun w=>I_any ep (by have:=HR.out.1; omega) HR.out.2.1 w);rw [hPI] at KI;clear S O BB hT BU hL hPI nj hTz;go_wp2_with fail;rw [ST.out];go_wp2_with fail;refine KY.out.mono ?_;rintro e w9 ⟨rfl,hb9⟩;have O9:=xh (ao OO9.out hb9);have B9:=xh (C.out.below hb9 C.out.lt);clear hb9;go_wp2_with fail
     have HK:=xh (show ∀W',Below w9.heap.size w9 W'→W'.cell? ⟨w.heap.size,0,none⟩=some (.int .i64 ep) from fun W' ho=>(B9.out.below ho B9.out.lt).ab (i:=0) rfl);have OD:=xh ((Below.refl w9.heap.size w9).drew);have z1: ¬9223372036854775807<PI.size+L.size:=by omega
     have z2: ¬9223372036854775807<PI.size+L.size+PI.size:=by omega
     clear hLz hPz;refine wp_region_held_drew (S:=fun W'=>W'.cell? ⟨w.heap.size,0,none⟩=some (.int .i64 ep)) (by kernel_rfl) (HK.out _ OD.out) (fun aj=>?_);refine bR [(0,40),(1,41),(3,43),(5,45),(6,46)] ?_
     iterate 5 (refine zt ?_; try simp only [Act.put,pa,pb,pc])
     refine bS ?_;refine cA (i:=2) (o:=⟨some 42,_,_,_,_,_⟩) fun K hK=>?_;go_simp
     go_at_call 88
     refine (KI.out _).mono ?_;rintro r wa ⟨rfl,hba⟩;have Pa:=xh (ao OD.out hba);go_simp;refine hK.out _ _ (HK.out _ Pa.out) (fun aj=>?_)
     try simp only [Act.put,pa,pb,pc]
     refine bR [(4,44)] ?_
     iterate 1 (refine zt ?_; try simp only [Act.put,pa,pb,pc])
     refine bS ?_;refine cA (i:=7) (o:=⟨some 47,_,_,_,_,_⟩) fun K hK=>?_;go_simp
     go_at_call 88
     refine (KI.out _).mono ?_;rintro r wb ⟨rfl,zD⟩;have Pb:=xh (ao Pa.out zD);go_simp;refine hK.out _ _ (HK.out _ Pb.out) (fun aj=>?_)
     try simp only [Act.put,pa,pb,pc]
     refine bR [(8,48),(9,2),(10,3)] ?_
     iterate 3 (refine zt ?_; try simp only [Act.put,pa,pb,pc])
     refine bS ?_;refine wpAnyH_done (by kernel_rfl) ?_ _;have OF:=xh (ao O9.out Pb.out);go_wp2_with fail;go_ret2;exact ⟨by rw [←JA.out]; rfl,OF.out⟩
end Go.Proofs.YtmonobkginiajaaGreat.Rt
