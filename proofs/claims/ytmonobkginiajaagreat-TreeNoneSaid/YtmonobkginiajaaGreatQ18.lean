/- packed. -/
import Derived.Test.YtmonobkginiajaaGreatQ17
import Derived.Deep.DrawnRows
import Derived.Deep.RegionHeld
import Derived.Deep.Slices
import Derived.Deep.Grids
import Derived.Lib.SmallJoins
import Derived.Deep.RegionHeld3
import Derived.Deep.Cut
import Derived.Laws.ResultCell
set_option linter.all false
set_option maxRecDepth 100000
set_option maxHeartbeats 8000000
namespace Go.Proofs.YtmonobkginiajaaGreat.Sl
open Go.RowKit
attribute [local go_sem ↓] aX
theorem iT {w:World} {A:Option Addr} {n c:Nat} {l:List (List UInt8)} (S:aG w 9 1 (.slice A n c) n (strs l)) (k:Nat) (hk:k<l.length): ∃g,A=some ⟨g,0,none⟩∧w.cell? ⟨g,k,none⟩=some (.string ⟨l[k].toArray⟩):=by
 have hl:=S.1;rw [rD] at hl;obtain ⟨g,cap,rest,hv,B,_,_⟩:=S.form (by omega) (by omega);simp only [Value.slice.injEq,true_and] at hv;obtain ⟨rfl,rfl⟩:=hv;exact ⟨g,rfl,B.ab (by rw [List.getElem?_toArray,List.getElem?_append_left (by rw [rD]; exact hk)]; simp [strs,List.getElem?_eq_getElem hk])⟩
theorem size_of_list (l:List UInt8):(⟨l.toArray⟩:ByteArray).size=l.length:=by
 show l.toArray.size=l.length;simp
end Go.Proofs.YtmonobkginiajaaGreat.Sl
namespace Go.Proofs.YtmonobkginiajaaGreat.Sl
open Go.RowKit
attribute [local go_sem ↓] Go.wp_at_zero Go.wp_at_succ
attribute [local go_sem ↓] aX
section
variable {w:World} {A:Option Addr} {n c i:Nat} {l:List (List UInt8)} {A3:Option Addr} {cc:Nat}
end
section
variable {W:World} {A:Option Addr} {n c i:Nat} {l:List (List UInt8)} {A3:Option Addr} {cc:Nat} {r:ByteArray}
end
end Go.Proofs.YtmonobkginiajaaGreat.Sl
namespace Go.Proofs.YtmonobkginiajaaGreat.Sl
open Go.RowKit
attribute [local go_sem ↓] aX
theorem Fi (T:ByteArray):(⟨T.data.toList.toArray⟩:ByteArray)=T:=by simp
theorem Lv (b:List UInt8): ∃T:ByteArray,T.data.toList=b:=⟨⟨b.toArray⟩,by simp⟩
theorem iA {b:List UInt8} (h:Sound b): ∀r∈bX b,r.length≤232:=by
 intro r hr;simp only [bX,List.mem_map] at hr;obtain ⟨x,hx,rfl⟩:=hr;have:=(h.fit.lG x hx).2;rw [rC (by rw [h.len]; omega)];omega
theorem jx {b:List UInt8} (h:Sound b):(bX b).length≤57:=by
 rw [bY];have:=h.head;have:=h.heap;omega
theorem Fj {b:List UInt8} (h:Sound b) (i:Nat) (r:List UInt8) (hr:(r.length:Int)≤gD (bX b)-4) (hi:i≤(bX b).length):
  pG b i r=(nY b i r,0)∧Sound (nY b i r)∧bX (nY b i r)=(bX b).take i++r::(bX b).drop i:=by
 rw [bY] at hi;rw [←Fe h] at hr;refine ⟨?_,h.insert i r hr hi⟩;unfold pG;rw [if_pos ((dj b).2 h),if_pos ⟨by omega,by omega⟩,if_pos hr,Int.toNat_natCast]
end Go.Proofs.YtmonobkginiajaaGreat.Sl
namespace Go.Proofs.YtmonobkginiajaaGreat.Sl
open Go.RowKit Go.Deep Go.ChangeShapes Go.WideShapes
attribute [local go_sem ↓] aX
structure Pair (w:World) (base:Nat) (b:ByteArray) (v:Value) (l:List (List UInt8)):Prop where
 s:Sound b.data.toList
 r:bX b.data.toList=l
 S:aG w 9 1 v l.length (strs l)
 F: ∀g∈ah v,base≤g
theorem DP {b:List UInt8} (h:Sound b) (i:Nat) (r:List UInt8) (hr:gD (bX b)-4<(r.length:Int)) (hi:i≤(bX b).length):pG b i r=([],11):=by
 rw [bY] at hi;rw [←Fe h] at hr;unfold pG;rw [if_pos ((dj b).2 h),if_pos ⟨by omega,by omega⟩,if_neg (by omega)]
end Go.Proofs.YtmonobkginiajaaGreat.Sl
namespace Go.Proofs.YtmonobkginiajaaGreat.Sl
open Go.RowKit Go.Deep Go.ChangeShapes Go.WideShapes
structure Ac where
 kind:Int
 i:Int
 r:ByteArray
instance:Inhabited Ac:=⟨⟨0,0,.empty⟩⟩
structure ActAt (w:World) (ad:Addr) (a:Ac):Prop where
 c0:w.cell? ad=some (.int .i64 a.kind)
 c1:w.cell? ⟨ad.block,ad.off+1,none⟩=some (.int .i64 a.i)
 c2:w.cell? ⟨ad.block,ad.off+2,none⟩=some (.string a.r)
 hr:a.r.size≤9223372036854775807
end Go.Proofs.YtmonobkginiajaaGreat.Sl
namespace Go.Proofs.YtmonobkginiajaaGreat.Sl
open Go.RowKit
attribute [local go_sem ↓] aX
theorem ur (l:List (List UInt8)) (k:Nat) (h:k<l.length):gD (l.take (k+1))=gD (l.take k)-4-(l[k].length:Int):=by
 unfold gD;rw [List.take_succ_eq_append_getElem h,List.map_append,List.sum_append];simp; omega
theorem uu (l:List (List UInt8)) (k:Nat):gD l≤gD (l.take k):=by
 unfold gD;have:((l.take k).map fun r=>4+r.length).sum≤(l.map fun r=>4+r.length).sum:=by
  rw [List.map_take];exact rF _ k
 omega
def AB (l:List (List UInt8)):Nat→List UInt8
 | 0=>jg
 | k+1=>nY (AB l k) k (l.getD k [])
def ofL (l:List (List UInt8)):List UInt8:=AB l l.length
def Lw (l:List (List UInt8)) (w:World) (e:Ending) (w':World):Prop:=
 ((0≤gD l∧ ∃b:ByteArray,e= .returned (.tuple #[.string b,.int .i64 0])∧Sound b.data.toList∧bX b.data.toList=l∧b.data.toList=ofL l)∨(gD l<0∧e= .returned (.tuple #[.string ⟨#[]⟩,.int .i64 11])))∧Below w.heap.size w w'
theorem Lx {w:World} {v:Value} {l:List (List UInt8)} (S:aG w 9 1 v l.length (strs l)) (hl:l.length≤1000000) (hm: ∀r∈l,r.length≤1000000):
  Calls Tryz.prog 119 #[v] w (Lw l w):=by
 obtain ⟨A,c,rfl⟩:=aq S;have SS:=xh S;obtain ⟨s0,r0,-,-⟩:=l7;obtain ⟨T0,h0⟩:=Lv jg;have KE:=xh (mI w);rw [←h0,Fi] at KE;rw [←h0] at s0 r0;have HS:=xh (show Sound T0.data.toList∧bX T0.data.toList=l.take 0∧T0.data.toList=AB l 0 from ⟨s0,r0,h0⟩);have HM:=xh (show ∀k (h:k<l.length),l[k].length≤1000000 from fun k h=>hm _ (List.getElem_mem h));have HR:=xh (fun k h=>ur l k h);have HMO:=xh (fun k=>uu l k)
 have HAL:=xh (show l.take l.length=l from List.take_length);have HZ:=xh (show 0≤gD (l.take 0) from by rw [List.take_zero]; decide);clear S s0 r0 h0 hm;go_enter Tryz.func119,Tryz.ntmps119;go_wp2_with fail;refine KE.out.mono ?_;rintro e w1 ⟨rfl,aM⟩;have S1:=xh (SS.out.below aM);have O1:=xh aM;clear aM SS;go_wp2_with fail
 go_loopw [4,12] (fun bv iv wr=> ∃(k:Nat) (b:ByteArray),k≤l.length∧bv= .string b∧iv= .int .i64 k∧Hid (Sound b.data.toList∧bX b.data.toList=l.take k∧b.data.toList=AB l k)∧Hid (0≤gD (l.take k))∧aG wr 9 1 (.slice A l.length c) l.length (strs l)∧Below w.heap.size w wr) (fun _ iv _=>l.length-(intOf iv).toNat)
 case atStart=>exact ⟨0,T0,Nat.zero_le _,rfl,rfl,HS,HZ,S1.out,O1.out⟩
 case round=>
  obtain ⟨k,b,hk,rfl,rfl,HB,HP,S,O⟩:=hrel;have OO:=xh O;have SS:=xh S;clear S O
  by_cases h:k<l.length
  ·obtain ⟨g,rfl,ck⟩:=iT SS.out k h;have hrk:=HM.out k h;have HRk:=xh (HR.out k h);have HMk:=xh (HMO.out (k+1));obtain ⟨R,hR⟩:=Lv l[k];have HST:=xh (show l.take (k+1)=l.take k++[R.data.toList] from by rw [List.take_succ_eq_append_getElem h,hR]);rw [←hR] at ck hrk HRk;rw [Fi] at ck;have hRl:R.data.toList.length=R.size:=by simp
   rw [hRl] at hrk HRk;have hs:=HB.out.1;have lK:b.size=232:=by have:=hs.len; simpa using this
   have KI:=xh (fun w'=>DO b R k w' (by omega) (by omega));have hlen:(bX b.data.toList).length=k:=by rw [HB.out.2.1,List.length_take]; omega
   have hki:(k:Int)<(l.length:Int):=by omega
   by_cases hf:0≤gD (l.take (k+1))
   ·obtain ⟨i1,s1,r1⟩:=Fj hs k R.data.toList (by rw [HB.out.2.1,hRl]; have:=HRk.out; omega) (by omega);obtain ⟨T,hT⟩:=Lv (nY b.data.toList k R.data.toList);rw [←hT] at i1 s1 r1;rw [i1,Fi] at KI;have G9:=xh (show Sound T.data.toList∧bX T.data.toList=l.take (k+1)∧T.data.toList=AB l (k+1) from ⟨s1,by
     rw [r1,HST.out,HB.out.2.1];rw [List.take_of_length_le (by rw [List.length_take]; omega),List.drop_eq_nil_of_le (by rw [List.length_take]; omega)],by
     rw [hT,hR,HB.out.2.2];show nY _ k l[k]=nY _ k (l.getD k []);rw [List.getD_eq_getElem?_getD,List.getElem?_eq_getElem h];rfl⟩)
    have HF:=xh hf;clear i1 s1 r1 hT hs lK hlen hf hR hRl;go_wp2_with fail;refine (KI.out _).mono ?_;rintro e w2 ⟨rfl,bT⟩;have S2:=xh (SS.out.below bT);have O2:=xh (ao OO.out bT);clear bT;go_wp2_with fail;go_roundw
    case rel=>exact ⟨k+1,T,by omega,rfl,by go_num,G9,HF,S2.out,O2.out⟩
    case measure=>simp [intOf]; omega
   ·have i1:=DP hs k R.data.toList (by rw [HB.out.2.1,hRl]; have:=HRk.out; omega) (by omega);rw [i1] at KI;have HF:=xh (show gD l<0 from by have:=HMk.out; omega);clear i1 hs lK hlen hf hR hRl;go_wp2_with fail;refine (KI.out _).mono ?_;rintro e w2 ⟨rfl,bT⟩;have O2:=xh (ao OO.out bT);clear bT;go_wp2_with fail;go_ret2;exact ⟨.inr ⟨HF.out,rfl⟩,O2.out⟩
  ·have vK:=xh (show k=l.length by omega);go_wp2_with fail;go_ret2;refine ⟨.inl ⟨?_,b,rfl,HB.out.1,?_,by rw [HB.out.2.2,vK.out]; rfl⟩,OO.out⟩
   ·have:=HP.out;rw [vK.out,HAL.out] at this;exact this
   ·rw [HB.out.2.1,vK.out,HAL.out]
end Go.Proofs.YtmonobkginiajaaGreat.Sl
namespace Go.Proofs.YtmonobkginiajaaGreat.Nd
open Go.RowKit Sl
structure E where
 key:ByteArray
 val:ByteArray
 aH:Int
def E.agg (e:E):Value:= .agg #[.string e.key,.string e.val,.int .i64 e.aH]
def E.cells (e:E):List Value:=[.string e.key,.string e.val,.int .i64 e.aH]
def cE (e:E) (leaf:Bool):Prop:=e.key.size≤32∧e.val.size≤40∧(if leaf=true then -1 else 0)≤e.aH∧e.aH<512∧(e.aH<0∨e.val.size=0)
instance (e:E) (leaf:Bool):Decidable (cE e leaf):=by unfold cE; exact inferInstance
theorem xd {s:ByteArray} (h:s.size=0):s= .empty:=by
 apply ByteArray.ext;exact Array.eq_empty_of_size_eq_zero h
theorem qH {s:ByteArray} (h:s.size≠0):s.toList.isEmpty=false:=by
 cases e:s.toList with
 | nil=>
  refine absurd ?_ h;rw [bZ] at e;show s.data.size=0;rw [←Array.length_toList,e]; rfl
 | cons a l=>rfl
theorem qf (w:World) (e:E) (leaf:Bool):
  Calls Tryz.prog 162 #[e.agg,.bool leaf] w fun r w'=>r= .returned (.bool (decide (cE e leaf)))∧Below w.heap.size w w':=by
 have O0:=xh ((Below.refl w.heap.size w).alloc (Nat.le_refl _) (.cells #[.string e.key,.string e.val,.int .i64 e.aH] 111));have B0:=ax.new w 111 #[.string e.key,.string e.val,.int .i64 e.aH];have c0:=B0.ab (i:=0) rfl;have c1:=B0.ab (i:=1) rfl;have c2:=B0.ab (i:=2) rfl;clear B0;obtain ⟨b,hb⟩: ∃b,b=decide (cE e leaf):=⟨_,rfl⟩;rw [←hb]
 replace hb:=xh hb
 unfold E.agg;obtain ⟨key,val,aH⟩:=e;dsimp only at *
 by_cases hv:val.size=0
 ·have nz:=xh hv;obtain rfl:=xd hv
  cases leaf
  all_goals
   go_enter Tryz.func162,Tryz.ntmps162;go_wp2_with fail
  all_goals
   go_ret;refine ⟨?_,O0.out⟩;have h:=hb.out;have hv3:=nz.out
   first
    | (rw [decide_eq_true (by unfold cE; dsimp only; simp only [Bool.false_eq_true,if_false,if_true]; omega)] at h; subst h; rfl)
    | (rw [decide_eq_false (by unfold cE; dsimp only; simp only [Bool.false_eq_true,if_false,if_true]; omega)] at h; subst h; rfl)
 ·have nz:=qH hv;have hv3:=xh hv;clear hv
  by_cases hf:aH<0
  all_goals
   cases leaf
  all_goals
   go_enter Tryz.func162,Tryz.ntmps162;go_wp2_with fail
  all_goals
   go_ret;refine ⟨?_,O0.out⟩;have h:=hb.out;have hv4:=hv3.out
   first
    | (rw [decide_eq_true (by unfold cE; dsimp only; simp only [Bool.false_eq_true,if_false,if_true]; omega)] at h; subst h; rfl)
    | (rw [decide_eq_false (by unfold cE; dsimp only; simp only [Bool.false_eq_true,if_false,if_true]; omega)] at h; subst h; rfl)
end Go.Proofs.YtmonobkginiajaaGreat.Nd
namespace Go.Proofs.YtmonobkginiajaaGreat.Nd
open Go.RowKit Sl
attribute [local go_sem ↓] Go.wp_at_zero Go.wp_at_succ
theorem ae {W w1:World} (h:Below W.heap.size W w1) (o:Obj):Below W.heap.size W (w1.alloc o):=h.alloc h.size o
structure xe (w:World) (ad:Addr) (e:E):Prop where
 c0:w.cell? ad=some (.string e.key)
 c1:w.cell? ⟨ad.block,ad.off+1,none⟩=some (.string e.val)
 c2:w.cell? ⟨ad.block,ad.off+2,none⟩=some (.int .i64 e.aH)
def lk (w:World) (A:Option Addr) (n:Nat) (l:List E):Prop:=l.length=n∧ ∀k e,l[k]?=some e→ ∃ad,A=some ad∧xe w (ad.add (k*3)) e
theorem xe.below {w w':World} {ad:Addr} {e:E} (h:xe w ad e) (hb:Below w.heap.size w w'):xe w' ad e:=by
 have dL:=da h.c0;exact ⟨(hb.cell dL).trans h.c0,(hb.cell (p:=⟨ad.block,ad.off+1,none⟩) dL).trans h.c1,(hb.cell (p:=⟨ad.block,ad.off+2,none⟩) dL).trans h.c2⟩
theorem lk.below {w w':World} {A:Option Addr} {n:Nat} {l:List E} (h:lk w A n l) (hb:Below w.heap.size w w'):lk w' A n l:=by
 refine ⟨h.1,fun k e he=>?_⟩;obtain ⟨ad,e1,h1⟩:=h.2 k e he;exact ⟨ad,e1,h1.below hb⟩
theorem lk.at {w:World} {A:Option Addr} {n:Nat} {l:List E} (h:lk w A n l) (k:Nat) (hk:k<n): ∃ad e,A=some ad∧l[k]?=some e∧xe w (ad.add (k*3)) e:=by
 have hl:=h.1;obtain ⟨ad,e1,h1⟩:=h.2 k l[k] (List.getElem?_eq_getElem (by omega));exact ⟨ad,l[k],e1,List.getElem?_eq_getElem (by omega),h1⟩
def leB (a b:ByteArray):Bool:=Op.bytesLess a.toList b.toList || a.toList==b.toList
def okAt (l:List E) (leaf:Bool) (i:Nat):Prop:= ∀e,l[i]?=some e→cE e leaf∧(0<i→ ∀p,l[i-1]?=some p→leB e.key p.key=false)
def cM (l:List E) (leaf:Bool):Prop:= ∀i,i<l.length→okAt l leaf i
def aT (leaf:Bool) (A:Option Addr) (n c:Nat):Value:= .agg #[.bool leaf,.slice A n c]
theorem mS {w:World} (leaf:Bool) (A:Option Addr) (n c:Nat) (l:List E) (h:lk w A n l) (hn:n≤9223372036854775807):
  Calls Tryz.prog 117 #[aT leaf A n c] w fun r w'=>(∃b,r= .returned (.bool b)∧(b=true↔cM l leaf))∧Below w.heap.size w w':=by
 have O0:=(Below.refl w.heap.size w).alloc (Nat.le_refl _) (.cells #[.bool leaf,.slice A n c] 118);have B0:=xh (ax.new w 118 #[.bool leaf,.slice A n c]);have hl:=xh h.1;have H0:=xh (h.below O0);have O0:=xh O0;clear h;have c1:=B0.out.ab (i:=1) rfl;unfold aT;go_enter Tryz.func117,Tryz.ntmps117;go_wp2_with fail;generalize (w.alloc (.cells #[.bool leaf,.slice A n c] 118))=W at *;clear c1
 go_loopw [8] (fun iv wr=> ∃i:Nat,i≤n∧iv= .int .i64 i∧(∀j,j<i→okAt l leaf j)∧Below W.heap.size W wr) (fun iv _=>n-(intOf iv).toNat)
 case atStart=>exact ⟨0,by omega,rfl,fun j hj=>absurd hj (Nat.not_lt_zero j),Below.refl _ _⟩
 case round=>
  obtain ⟨i,hi,rfl,dS,hb⟩:=hrel
  by_cases h:i<n
  ·obtain ⟨ad,e,rfl,he,AT⟩:=(H0.out.below hb).at i h;have HB:=xh hb;have BV:=xh dS;have b0:=(B0.out.below hb B0.out.lt).ab (i:=0) rfl;have b1:=(B0.out.below hb B0.out.lt).ab (i:=1) rfl;have a0:=AT.c0;have a1:=AT.c1;have a2:=AT.c2;clear hb dS;have fj:=ae (Below.refl wr.heap.size wr) (.cells #[.string e.key,.string e.val,.int .i64 e.aH] 111);have BE:=xh (ax.new wr 111 #[.string e.key,.string e.val,.int .i64 e.aH]);have G9:=xh (ao HB.out fj)
   have HE:=xh ((H0.out.below HB.out).below fj);have HN:=xh ((B0.out.below HB.out B0.out.lt).below fj (B0.out.below HB.out B0.out.lt).lt);clear fj AT;have hnn:(i:Int)<(n:Int):=by omega
   go_wp2_with fail;generalize hwA:(wr.alloc (.cells #[.string e.key,.string e.val,.int .i64 e.aH] 111))=wA at *;clear hwA a0 a1 a2 b0 b1;have x0:=BE.out.ab (i:=0) rfl;have x1:=BE.out.ab (i:=1) rfl;have x2:=BE.out.ab (i:=2) rfl;have y0:=HN.out.ab (i:=0) rfl;have y1:=HN.out.ab (i:=1) rfl;have hyx:wr.heap.size<wA.heap.size:=BE.out.lt
   have HK:=xh (show ∀W',Below wA.heap.size wA W'→(Below wA.heap.size wA W'∧W'.cell? ⟨wr.heap.size,0,none⟩=some (.string e.key)∧W'.cell? ⟨wr.heap.size,1,none⟩=some (.string e.val)∧W'.cell? ⟨wr.heap.size,2,none⟩=some (.int .i64 e.aH)∧W'.cell? ⟨w.heap.size,0,none⟩=some (.bool leaf)∧W'.cell? ⟨w.heap.size,1,none⟩=some (.slice (some ad) n c)) from fun W' hb=>⟨hb,(Below.cell hb BE.out.lt).trans x0,(Below.cell hb BE.out.lt).trans x1,(Below.cell hb BE.out.lt).trans x2,(Below.cell hb HN.out.lt).trans y0,(Below.cell hb HN.out.lt).trans y1⟩)
   have d0:Below wA.heap.size wA wA.drew:=(Below.refl _ _).drew;have HF:=xh (And.intro BV.out (And.intro he (And.intro hl.out O0.out)));have KR:=xh (fun w'=>qf w' e leaf)
   rcases Bool.eq_false_or_eq_true (decide (cE e leaf)) with hr | hr
   ·rw [hr] at KR
    by_cases y8:i=0
    ·subst y8;refine wp_region_held_drew (S:=(fun w'=>Below wA.heap.size wA w'∧w'.cell? ⟨wr.heap.size,0,none⟩=some (.string e.key)∧w'.cell? ⟨wr.heap.size,1,none⟩=some (.string e.val)∧w'.cell? ⟨wr.heap.size,2,none⟩=some (.int .i64 e.aH)∧w'.cell? ⟨w.heap.size,0,none⟩=some (.bool leaf)∧w'.cell? ⟨w.heap.size,1,none⟩=some (.slice (some ad) n c))) (by kernel_rfl) (HK.out _ d0) (fun aj=>?_);refine bR [(0,13),(1,14),(2,15)] ?_
     iterate 3 (refine zt ?_; try simp only [Act.put,pa,pb,pc])
     refine bS ?_;refine cA (i:=3) (o:=⟨some 16,_,_,_,_,_⟩) fun K hK=>?_;go_simp
     go_at_call 162
     refine (KR.out _).mono ?_;rintro r w1 ⟨rfl,aM⟩;have bT:=ao (show Below wA.heap.size wA _ from aj.1) aM;go_simp;refine hK.out _ _ (HK.out _ bT) (fun aj=>?_)
     try simp only [Act.put,pa,pb,pc]
     refine bR [(4,17),(5,18),(6,19),(7,20),(8,21)] ?_
     iterate 5 (refine zt ?_; try simp only [Act.put,pa,pb,pc])
     refine bS ?_;refine fU (i:=9) (oi:=⟨some 22,_,_,_,_,_⟩) rfl (by kernel_rfl) (fun _ _ _ h=>h) (by assumption) ?_
     try simp only [Act.put,pa,pb,pc]
     refine fU (i:=10) (oi:=⟨some 23,_,_,_,_,_⟩) rfl (by kernel_rfl) (fun _ _ _ h=>h) (by assumption) ?_
     try simp only [Act.put,pa,pb,pc]
     refine fU (i:=11) (oi:=⟨some 24,_,_,_,_,_⟩) rfl (by kernel_rfl) (fun _ _ _ h=>h) (by assumption) ?_
     try simp only [Act.put,pa,pb,pc]
     refine fU (i:=12) (oi:=⟨some 25,_,_,_,_,_⟩) rfl (by kernel_rfl) (fun _ _ _ h=>h) (by assumption) ?_
     try simp only [Act.put,pa,pb,pc]
     refine fU (i:=13) (oi:=⟨some 26,_,_,_,_,_⟩) rfl (by kernel_rfl) (fun _ _ _ h=>h) (by assumption) ?_
     try simp only [Act.put,pa,pb,pc]
     refine fU (i:=14) (oi:=⟨some 27,_,_,_,_,_⟩) rfl (by kernel_rfl) (fun _ _ _ h=>h) (by assumption) ?_
     try simp only [Act.put,pa,pb,pc]
     refine fU (i:=15) (oi:=⟨some 28,_,_,_,_,_⟩) rfl (by kernel_rfl) (fun _ _ _ h=>h) (by assumption) ?_
     try simp only [Act.put,pa,pb,pc]
     refine fU (i:=16) (oi:=⟨some 29,_,_,_,_,_⟩) rfl (by kernel_rfl) (fun _ _ _ h=>h) (by assumption) ?_
     try simp only [Act.put,pa,pb,pc]
     refine fU (i:=17) (oi:=⟨some 30,_,_,_,_,_⟩) rfl (by kernel_rfl) (fun _ _ _ h=>h) (by assumption) ?_
     try simp only [Act.put,pa,pb,pc]
     refine fU (i:=18) (oi:=⟨some 31,_,_,_,_,_⟩) rfl (by kernel_rfl) (fun _ _ _ h=>h) (by assumption) ?_
     try simp only [Act.put,pa,pb,pc]
     refine bR [(19,32),(20,33)] ?_
     iterate 2 (refine zt ?_; try simp only [Act.put,pa,pb,pc])
     refine bS ?_;refine wpAnyH_done (by kernel_rfl) ?_ _;go_wp2_with fail;obtain ⟨f1,f2,f3,f4⟩:=HF.out;refine ⟨⟨0+1,by omega,rfl,?_,ao G9.out aj.1⟩,by simp [intOf]; omega⟩;intro j hj e' rZ;obtain rfl:j=0:=by omega
     rw [f2] at rZ;injection rZ with rZ
     subst rZ;exact ⟨of_decide_eq_true hr,fun h0=>absurd h0 (Nat.lt_irrefl _)⟩
    ·obtain ⟨ad',p,e',hp,AP⟩:=HE.out.at (i-1) (by omega);injection e' with e'
     subst e';have q0:=AP.c0;have HK:=xh (show ∀W',Below wA.heap.size wA W'→(Below wA.heap.size wA W'∧W'.cell? ⟨wr.heap.size,0,none⟩=some (.string e.key)∧W'.cell? ⟨wr.heap.size,1,none⟩=some (.string e.val)∧W'.cell? ⟨wr.heap.size,2,none⟩=some (.int .i64 e.aH)∧W'.cell? ⟨w.heap.size,0,none⟩=some (.bool leaf)∧W'.cell? ⟨w.heap.size,1,none⟩=some (.slice (some ad) n c)∧W'.cell? (ad.add ((i-1)*3))=some (.string p.key)) from fun W' hb=>by
      obtain ⟨h1,h2,h3,h4,h5,h6⟩:=HK.out W' hb;exact ⟨h1,h2,h3,h4,h5,h6,(hb.cell (da q0)).trans q0⟩)
     have e1:IntKind.i64.wrap ((i:Int)-1)=(i:Int)-1:=IntWalk.i64_in _ (by omega);have e2:(0:Int)≤(i:Int)-1:=by omega
     have e3:(i:Int)-1<(n:Int):=by omega
     have e4:((i:Int)-1).toNat=i-1:=by omega
     have e5:(0:Int)<(i:Int):=by omega
     have e6:(1:Int)≤(i:Int):=by omega
     refine wp_region_held_drew (S:=(fun w'=>Below wA.heap.size wA w'∧w'.cell? ⟨wr.heap.size,0,none⟩=some (.string e.key)∧w'.cell? ⟨wr.heap.size,1,none⟩=some (.string e.val)∧w'.cell? ⟨wr.heap.size,2,none⟩=some (.int .i64 e.aH)∧w'.cell? ⟨w.heap.size,0,none⟩=some (.bool leaf)∧w'.cell? ⟨w.heap.size,1,none⟩=some (.slice (some ad) n c)∧w'.cell? (ad.add ((i-1)*3))=some (.string p.key))) (by kernel_rfl) (HK.out _ d0) (fun aj=>?_);refine bR [(0,13),(1,14),(2,15)] ?_
     iterate 3 (refine zt ?_; try simp only [Act.put,pa,pb,pc])
     refine bS ?_;refine cA (i:=3) (o:=⟨some 16,_,_,_,_,_⟩) fun K hK=>?_;go_simp
     go_at_call 162
     refine (KR.out _).mono ?_;rintro r w1 ⟨rfl,aM⟩;have bT:=ao (show Below wA.heap.size wA _ from aj.1) aM;go_simp;refine hK.out _ _ (HK.out _ bT) (fun aj=>?_)
     try simp only [Act.put,pa,pb,pc]
     refine bR [(4,17),(5,18),(6,19)] ?_
     iterate 3 (refine zt ?_; try simp only [Act.put,pa,pb,pc])
     refine bS ?_;refine wpAnyH_take (i:=7) (oi:=⟨some 20,_,_,_,_,_⟩) (v:= .bool true) rfl (by kernel_rfl) (by kernel_rfl) (by kernel_rfl) (fun _ _ _ h=>h) (Or.inl ⟨by kernel_rfl,?_⟩) (by assumption) ?_
     ·(intro w ks; (try dsimp only at ks); go_simp; (try omega))
     try simp only [Act.put,pa,pb,pc]
     refine bR [(8,21),(9,22),(10,23),(11,24),(12,25),(13,26),(14,27),(15,28),(16,29),(17,30),(18,31),(19,32),(20,33)] ?_
     iterate 13 (refine zt ?_; try simp only [Act.put,pa,pb,pc])
     refine bS ?_;refine wpAnyH_done (by kernel_rfl) ?_ _;go_wp2_with fail
     ·rename_i hx;obtain ⟨f1,f2,f3,f4⟩:=HF.out;go_ret;refine ⟨⟨false,rfl,?_⟩,ao (ao f4 G9.out) aj.1⟩;simp only [Bool.false_eq_true,false_iff];intro hm;have h1:=(hm i (by omega) e f2).2 (by omega) p hp;unfold leB at h1
      rcases hx with hx | hx
      ·rw [hx] at h1; simp at h1
      ·rw [hx] at h1; simp at h1
     ·rename_i hx;obtain ⟨f1,f2,f3,f4⟩:=HF.out;refine ⟨⟨i+1,by omega,rfl,?_,ao G9.out aj.1⟩,by simp [intOf]; omega⟩;intro j hj
      rcases Nat.lt_succ_iff_lt_or_eq.1 hj with h1 | rfl
      ·exact f1 j h1
      ·intro e' rZ;rw [f2] at rZ;injection rZ with rZ
       subst rZ;refine ⟨of_decide_eq_true hr,fun _ p' hp'=>?_⟩;rw [hp] at hp';injection hp' with hp'
       subst hp';unfold leB;rw [hx.1,hx.2]; rfl
   ·rw [hr] at KR;refine wp_region_held_drew (S:=(fun w'=>Below wA.heap.size wA w'∧w'.cell? ⟨wr.heap.size,0,none⟩=some (.string e.key)∧w'.cell? ⟨wr.heap.size,1,none⟩=some (.string e.val)∧w'.cell? ⟨wr.heap.size,2,none⟩=some (.int .i64 e.aH)∧w'.cell? ⟨w.heap.size,0,none⟩=some (.bool leaf)∧w'.cell? ⟨w.heap.size,1,none⟩=some (.slice (some ad) n c))) (by kernel_rfl) (HK.out _ d0) (fun aj=>?_);refine bR [(0,13),(1,14),(2,15)] ?_
    iterate 3 (refine zt ?_; try simp only [Act.put,pa,pb,pc])
    refine bS ?_;refine cA (i:=3) (o:=⟨some 16,_,_,_,_,_⟩) fun K hK=>?_;go_simp
    go_at_call 162
    refine (KR.out _).mono ?_;rintro r w1 ⟨rfl,aM⟩;have bT:=ao (show Below wA.heap.size wA _ from aj.1) aM;go_simp;refine hK.out _ _ (HK.out _ bT) (fun aj=>?_)
    try simp only [Act.put,pa,pb,pc]
    refine bR [(4,17),(5,18)] ?_
    iterate 2 (refine zt ?_; try simp only [Act.put,pa,pb,pc])
    refine bS ?_;refine fU (i:=6) (oi:=⟨some 19,_,_,_,_,_⟩) rfl (by kernel_rfl) (fun _ _ _ h=>h) (by assumption) ?_
    try simp only [Act.put,pa,pb,pc]
    refine fU (i:=7) (oi:=⟨some 20,_,_,_,_,_⟩) rfl (by kernel_rfl) (fun _ _ _ h=>h) (by assumption) ?_
    try simp only [Act.put,pa,pb,pc]
    refine fU (i:=8) (oi:=⟨some 21,_,_,_,_,_⟩) rfl (by kernel_rfl) (fun _ _ _ h=>h) (by assumption) ?_
    try simp only [Act.put,pa,pb,pc]
    refine fU (i:=9) (oi:=⟨some 22,_,_,_,_,_⟩) rfl (by kernel_rfl) (fun _ _ _ h=>h) (by assumption) ?_
    try simp only [Act.put,pa,pb,pc]
    refine fU (i:=10) (oi:=⟨some 23,_,_,_,_,_⟩) rfl (by kernel_rfl) (fun _ _ _ h=>h) (by assumption) ?_
    try simp only [Act.put,pa,pb,pc]
    refine fU (i:=11) (oi:=⟨some 24,_,_,_,_,_⟩) rfl (by kernel_rfl) (fun _ _ _ h=>h) (by assumption) ?_
    try simp only [Act.put,pa,pb,pc]
    refine fU (i:=12) (oi:=⟨some 25,_,_,_,_,_⟩) rfl (by kernel_rfl) (fun _ _ _ h=>h) (by assumption) ?_
    try simp only [Act.put,pa,pb,pc]
    refine fU (i:=13) (oi:=⟨some 26,_,_,_,_,_⟩) rfl (by kernel_rfl) (fun _ _ _ h=>h) (by assumption) ?_
    try simp only [Act.put,pa,pb,pc]
    refine fU (i:=14) (oi:=⟨some 27,_,_,_,_,_⟩) rfl (by kernel_rfl) (fun _ _ _ h=>h) (by assumption) ?_
    try simp only [Act.put,pa,pb,pc]
    refine fU (i:=15) (oi:=⟨some 28,_,_,_,_,_⟩) rfl (by kernel_rfl) (fun _ _ _ h=>h) (by assumption) ?_
    try simp only [Act.put,pa,pb,pc]
    refine fU (i:=16) (oi:=⟨some 29,_,_,_,_,_⟩) rfl (by kernel_rfl) (fun _ _ _ h=>h) (by assumption) ?_
    try simp only [Act.put,pa,pb,pc]
    refine fU (i:=17) (oi:=⟨some 30,_,_,_,_,_⟩) rfl (by kernel_rfl) (fun _ _ _ h=>h) (by assumption) ?_
    try simp only [Act.put,pa,pb,pc]
    refine fU (i:=18) (oi:=⟨some 31,_,_,_,_,_⟩) rfl (by kernel_rfl) (fun _ _ _ h=>h) (by assumption) ?_
    try simp only [Act.put,pa,pb,pc]
    refine fU (i:=19) (oi:=⟨some 32,_,_,_,_,_⟩) rfl (by kernel_rfl) (fun _ _ _ h=>h) (by assumption) ?_
    try simp only [Act.put,pa,pb,pc]
    refine bR [(20,33)] ?_
    iterate 1 (refine zt ?_; try simp only [Act.put,pa,pb,pc])
    refine bS ?_;refine wpAnyH_done (by kernel_rfl) ?_ _;go_wp2_with fail;obtain ⟨f1,f2,f3,f4⟩:=HF.out;go_ret;refine ⟨⟨false,rfl,?_⟩,ao (ao f4 G9.out) aj.1⟩;simp only [Bool.false_eq_true,false_iff];intro hm;exact of_decide_eq_false hr (hm i (by omega) e f2).1
  ·go_wp2_with fail;go_ret;refine ⟨⟨true,rfl,?_⟩,ao O0.out hb⟩;simp only [true_iff];intro k hk;have:=hl.out;exact dS k (by omega)
end Go.Proofs.YtmonobkginiajaaGreat.Nd
namespace Go.Proofs.YtmonobkginiajaaGreat.Nd
open Go.RowKit Sl
attribute [local go_sem ↓] Go.wp_at_zero Go.wp_at_succ
def jQ (s:ByteArray):Nat:=(s.data.toList.getD 0 0).toNat
def fE (s:ByteArray):Prop:=3+jQ s≤s.size
def ft (s:ByteArray):E:=⟨s.extract 1 (1+jQ s),s.extract (3+jQ s) s.size,(bh s.data.toList (1+jQ s):Int)-1⟩
def E.zero:E:=⟨.empty,.empty,0⟩
theorem kD {fn:Func} {p u:Tmp} {w:World} {g:Nat} {a b:ByteArray} {c:Int} {tmps:Array Value} (h:fn.results= #[.cell p 111,.tmp u]) (hp:tmps.getD p undef= .pointer (some ⟨g,0,none⟩)) (B:ax w g 111 #[.string a,.string b,.int .i64 c]):
  (results fn tmps).run Tryz.prog w= .ok (.tuple #[.agg #[.string a,.string b,.int .i64 c],tmps.getD u undef]) w:=by
 have c0:=B.ab (i:=0) rfl;have c1:=B.ab (i:=1) rfl;have c2:=B.ab (i:=2) rfl;rw [results_cell_tmp h,hp];clear h hp B;go_simp
theorem AE (w:World) (s:ByteArray) (h: ¬fE s):
  Calls Tryz.prog 170 #[.string s] w fun r w'=>r= .returned (.tuple #[E.zero.agg,.bool false])∧Below w.heap.size w w':=by
 have O0:=xh ((Below.refl w.heap.size w).alloc (Nat.le_refl _) (.cells #[.string .empty,.string .empty,.int .i64 0] 111));have B0:=xh (ax.new w 111 #[.string .empty,.string .empty,.int .i64 0]);unfold E.agg E.zero
 by_cases hs:s.size=0
 ·obtain rfl:=xd hs;go_enter Tryz.func170,Tryz.ntmps170;go_wp2_with fail;exact bodyPost_ret (kD rfl rfl B0.out) rfl ⟨rfl,O0.out⟩
 ·have hs2:=qH hs;have h0:0<s.size:=by omega
  have h1:(0:Int)<(s.size:Int):=by omega
  have hk:jQ s=s[0].toNat:=by unfold jQ; rw [cK _ _ h0]
  unfold fE at h;rw [hk] at h;have b0:=s[0].toNat_lt;have h2:(s.size:Int)<3+(s[0].toNat:Int):=by omega
  have e4:IntKind.i64.wrap (s[0].toNat:Int)=(s[0].toNat:Int):=IntWalk.i64_in _ (by omega);have e5:IntKind.i64.wrap (3+(s[0].toNat:Int))=3+(s[0].toNat:Int):=IntWalk.i64_in _ (by omega);go_enter Tryz.func170,Tryz.ntmps170;go_wp2_with fail;exact bodyPost_ret (kD rfl rfl B0.out) rfl ⟨rfl,O0.out⟩
theorem xg (w:World) (s:ByteArray) (h:fE s) (hs:s.size≤1000000):
  Calls Tryz.prog 170 #[.string s] w fun r w'=>r= .returned (.tuple #[(ft s).agg,.bool true])∧Below w.heap.size w w':=by
 have O0:=xh ((Below.refl w.heap.size w).alloc (Nat.le_refl _) (.cells #[.string .empty,.string .empty,.int .i64 0] 111));have B0:=xh (ax.new w 111 #[.string .empty,.string .empty,.int .i64 0]);unfold fE at h;have hs2:=qH (s:=s) (by omega);have h0:0<s.size:=by omega
 have h1:(0:Int)<(s.size:Int):=by omega
 have hk:jQ s=s[0].toNat:=by unfold jQ; rw [cK _ _ h0]
 rw [hk] at h;have hE:=xh (show (ft s).agg= .agg #[.string (s.extract 1 (1+s[0].toNat)),.string (s.extract (3+s[0].toNat) s.size),.int .i64 ((bh s.data.toList (1+s[0].toNat):Int)-1)] from by unfold E.agg ft; rw [hk]);have b0:=s[0].toNat_lt;have h2: ¬(s.size:Int)<3+(s[0].toNat:Int):=by omega
 have e4:IntKind.i64.wrap (s[0].toNat:Int)=(s[0].toNat:Int):=IntWalk.i64_in _ (by omega);have e5:IntKind.i64.wrap (3+(s[0].toNat:Int))=3+(s[0].toNat:Int):=IntWalk.i64_in _ (by omega);have e6:IntKind.i64.wrap (1+(s[0].toNat:Int))=1+(s[0].toNat:Int):=IntWalk.i64_in _ (by omega);go_enter Tryz.func170,Tryz.ntmps170;go_wp2_with fail;obtain ⟨k,hkk⟩: ∃k,1+s[0].toNat=k:=⟨_,rfl⟩;have IF:(1:Int)+((s[0].toNat:Nat):Int)=((k:Nat):Int):=by omega
 rw [IF];have hk1:k<s.size:=by omega
 have hk2:k+1<s.size:=by omega
 have b1:=s[k].toNat_lt;have b2:=s[k+1].toNat_lt;have HV:=xh (show bits .or .i64 ((s[k].toNat:Int)*256) (s[k+1].toNat:Int)=((bh s.data.toList k:Nat):Int) from by
  rw [or8 _ _ (by omega) (by omega)]; unfold bh; rw [cK _ _ hk1,cK _ _ hk2])
 have e1:IntKind.i64.wrap ((k:Int)+1)=(k:Int)+1:=IntWalk.i64_in _ (by omega);have e2:(0:Int)≤(k:Int)+1:=by omega
 have e3:((k:Int)+1).toNat=k+1:=by omega
 have e7:(k:Int)+1<(s.size:Int):=by omega
 have e8:(k:Int)<(s.size:Int):=by omega
 have v1:IntKind.i64.wrap (s[k].toNat:Int)=(s[k].toNat:Int):=IntWalk.i64_in _ (by omega);have v2:IntKind.i64.wrap ((s[k].toNat:Int)*256)=(s[k].toNat:Int)*256:=IntWalk.i64_in _ (by omega);have v3:IntKind.i64.wrap (s[k+1].toNat:Int)=(s[k+1].toNat:Int):=IntWalk.i64_in _ (by omega);have z1:IntKind.i64.wrap ((k:Int)+2)=(k:Int)+2:=IntWalk.i64_in _ (by omega);have z2:(0:Int)≤(k:Int)+2:=by omega
 have z3:((k:Int)+2).toNat=k+2:=by omega
 have z4:(k:Int)+2≤(s.size:Int):=by omega
 have z5:(k:Int)≤(s.size:Int):=by omega
 have z6:(1:Int)≤(k:Int):=by omega
 go_quiet (fail);rw [HV.out];have u0:=List.getD s.data.toList k 0 |>.toNat_lt;have u1:=List.getD s.data.toList (k+1) 0 |>.toNat_lt;have z7:IntKind.i64.wrap ((bh s.data.toList k:Int)-1)=(bh s.data.toList k:Int)-1:=IntWalk.i64_in _ (by unfold bh; omega);go_wp2_with fail;refine wp_region_held_drew (S:=fun _=>True) (by kernel_rfl) trivial (fun aj=>?_);refine bR [(0,33),(1,34),(2,35),(3,36),(4,37),(5,38),(6,39),(7,40),(8,41),(9,42)] ?_
 iterate 10 (refine zt ?_; try simp only [Act.put,pa,pb,pc])
 refine bS ?_;refine cA (i:=10) (o:=⟨none,_,_,_,_,_⟩) fun K hK=>?_;go_simp;refine hK.out _ _ trivial (fun aj=>?_)
 try simp only [Act.put,pa,pb,pc]
 refine bR [(11,3)] ?_
 iterate 1 (refine zt ?_; try simp only [Act.put,pa,pb,pc])
 refine bS ?_;refine wpAnyH_done (by kernel_rfl) ?_ _;go_wp2_with fail;have BB:=((((B0.out.drewN (nq+1)).bq 0 (.string (s.extract 1 k))).bq 1 (.string (s.extract (k+2) s.size))).bq 2 (.int .i64 ((bh s.data.toList k:Int)-1)));refine bodyPost_ret (kD rfl rfl BB) rfl ⟨?_,?_⟩
 ·have hE2:(ft s).agg= .agg #[.string (s.extract 1 k),.string (s.extract (k+2) s.size),.int .i64 ((bh s.data.toList k:Int)-1)]:=by
   rw [hE.out,←hkk,show 3+s[0].toNat=1+s[0].toNat+2 by omega]
  rw [hE2]; rfl
 ·have hn:w.heap.size<w.heap.size→w.heap.size∈([]:List Nat):=fun h=>absurd h (Nat.lt_irrefl _);exact ((((ag.ak (S:=[]) (cQ O0.out (nq+1))).setCell (p:=⟨w.heap.size,0,none⟩) hn _).setCell (p:=⟨w.heap.size,1,none⟩) hn _).setCell (p:=⟨w.heap.size,2,none⟩) hn _).cZ
end Go.Proofs.YtmonobkginiajaaGreat.Nd
namespace Go.Proofs.YtmonobkginiajaaGreat.Nd
open Go.RowKit Sl
def ai (l:List E):Nat:=(l.map fun e=>e.key.size+e.val.size+7).sum
theorem iU (l:List E) (i:Nat) (e:E) (h:l[i]?=some e):ai (l.take (i+1))=ai (l.take i)+(e.key.size+e.val.size+7):=by
 unfold ai;rw [List.take_add_one,h]; simp
theorem ma (l:List E) (i:Nat):ai (l.take i)≤ai l:=by
 have:ai l=ai (l.take i)+ai (l.drop i):=by
  unfold ai;rw [←List.sum_append,←List.map_append,List.take_append_drop]
 omega
theorem xi {w:World} (A:Option Addr) (n c:Nat) (l:List E) (h:lk w A n l) (hn:n≤9223372036854775807) (hb:ai l≤1000000):
  Calls Tryz.prog 177 #[.slice A n c] w fun r w'=>r= .returned (.int .i64 (ai l:Nat))∧Below w.heap.size w w':=by
 have H0:=xh h;have hl:=xh h.1;have hB:=xh hb;clear h hb;go_enter Tryz.func177,Tryz.ntmps177;go_wp2_with fail
 go_loopw [3,8] (fun sv iv wr=> ∃i:Nat,i≤n∧iv= .int .i64 i∧sv= .int .i64 (ai (l.take i):Nat)∧Below w.heap.size w wr) (fun _ iv _=>n-(intOf iv).toNat)
 case atStart=>exact ⟨0,by omega,rfl,by simp [ai],Below.refl _ _⟩
 case round=>
  obtain ⟨i,hi,rfl,rfl,hbw⟩:=hrel
  by_cases h:i<n
  ·obtain ⟨ad,e,rfl,he,AT⟩:=(H0.out.below hbw).at i h;have a0:=AT.c0;have a1:=AT.c1;have a2:=AT.c2;have hs:=iU l i e he;have ht:=ma l (i+1);have hb:=hB.out;have HS:=xh hs;have s1:IntKind.i64.wrap ((e.key.size:Int)+(e.val.size:Int))=(e.key.size:Int)+(e.val.size:Int):=IntWalk.i64_in _ (by omega);have s2:IntKind.i64.wrap ((e.key.size:Int)+(e.val.size:Int)+7)=(e.key.size:Int)+(e.val.size:Int)+7:=IntWalk.i64_in _ (by omega)
   have s3:IntKind.i64.wrap ((ai (l.take i):Int)+((e.key.size:Int)+(e.val.size:Int)+7))=(ai (l.take i):Int)+((e.key.size:Int)+(e.val.size:Int)+7):=IntWalk.i64_in _ (by omega);have G9:=xh (ao hbw (ae (Below.refl wr.heap.size wr) (.cells #[.string e.key,.string e.val,.int .i64 e.aH] 111)));clear AT hs ht hb hbw;go_wp2_with fail;refine ⟨⟨i+1,by omega,rfl,?_,G9.out⟩,by simp [intOf]; omega⟩;rw [HS.out]; simp
  ·obtain rfl:i=n:=by omega
   have G9:=xh hbw;clear hbw;go_wp2_with fail;go_ret;refine ⟨?_,G9.out⟩;have:=hl.out;rw [List.take_of_length_le (by omega)]; rfl
end Go.Proofs.YtmonobkginiajaaGreat.Nd
namespace Go.Proofs.YtmonobkginiajaaGreat.Nd
open Go.RowKit Sl
end Go.Proofs.YtmonobkginiajaaGreat.Nd
namespace Go.Proofs.YtmonobkginiajaaGreat.Nd
open Go.RowKit Sl
attribute [local go_sem ↓] Go.wp_at_zero Go.wp_at_succ
theorem uv (e:E) (leaf:Bool):cE e leaf↔e.key.size≤32∧e.val.size≤40∧ -1≤e.aH∧e.aH≤511∧(0≤e.aH→e.val.size=0)∧(e.aH<0→leaf=true):=by
 unfold cE
 constructor
 ·rintro ⟨h1,h2,h3,h4,h5⟩
  cases leaf
  ·simp only [Bool.false_eq_true,if_false] at h3;exact ⟨h1,h2,by omega,by omega,fun h=>by omega,fun h=>by omega⟩
  ·simp only [if_true] at h3;exact ⟨h1,h2,by omega,by omega,fun h=>by omega,fun _=>rfl⟩
 ·rintro ⟨h1,h2,h3,h4,h5,h6⟩;have h7:e.aH<0∨e.val.size=0:=by
   rcases (show e.aH<0∨0≤e.aH by omega) with h | h
   ·exact .inl h
   ·exact .inr (h5 h)
  cases leaf
  ·simp only [Bool.false_eq_true,if_false];refine ⟨h1,h2,?_,by omega,h7⟩
   rcases (show e.aH<0∨0≤e.aH by omega) with h | h
   ·exact absurd (h6 h) (by decide)
   ·exact h
  ·simp only [if_true];exact ⟨h1,h2,h3,by omega,h7⟩
end Go.Proofs.YtmonobkginiajaaGreat.Nd
namespace Go.Proofs.YtmonobkginiajaaGreat.Nd
open Go.RowKit Sl
attribute [local go_sem ↓] Go.wp_at_zero Go.wp_at_succ
end Go.Proofs.YtmonobkginiajaaGreat.Nd
namespace Go.Proofs.YtmonobkginiajaaGreat.Nd
open Go.RowKit Sl
def aw (l:List E):List Value:=l.flatMap E.cells
theorem iB (e:E) (l:List E):aw (e::l)=e.cells++aw l:=by simp [aw]
theorem eE (l m:List E):aw (l++m)=aw l++aw m:=by simp [aw]
theorem an (l:List E):(aw l).length=l.length*3:=by
 induction l with
 | nil=>rfl
 | cons e l ih=>rw [iB,List.length_append,ih]; simp [E.cells]; omega
theorem Ly {l:List E} {k:Nat} {e:E} (h:l[k]?=some e) (j:Nat) (hj:j<3):(aw l)[k*3+j]?=e.cells[j]?:=by
 induction l generalizing k with
 | nil=>simp at h
 | cons x l ih=>
  rw [iB]
  cases k with
  | zero=>
   simp only [List.getElem?_cons_zero,Option.some.injEq] at h;subst h;rw [List.getElem?_append_left (by simp [E.cells]; omega)]; congr 1; omega
  | succ k=>
   rw [List.getElem?_cons_succ] at h;rw [List.getElem?_append_right (by simp [E.cells]; omega),←ih h]
   congr 1; simp [E.cells]; omega
theorem eX (g o j:Nat):(⟨g,o,none⟩:Addr).add j=⟨g,o+j,none⟩:=by
 unfold Addr.add
 split
 ·next h=>rw [h]; rfl
 ·rfl
theorem AF {w:World} {g:Nat} {t:TypeId} {l:List E} {rest:List Value} (B:ax w g t (aw l++rest).toArray) (k:Nat) (e:E) (h:l[k]?=some e):xe w ((⟨g,0,none⟩:Addr).add (k*3)) e:=by
 have hk:=(List.getElem?_eq_some_iff.1 h).1;have hlen:=an l;have key: ∀j,j<3→(aw l++rest).toArray[k*3+j]?=e.cells[j]?:=fun j hj=>by
  rw [List.getElem?_toArray,List.getElem?_append_left (by omega),Ly h j hj]
 rw [eX,Nat.zero_add];exact ⟨(B.cell _).trans (key 0 (by omega)),(B.cell _).trans (key 1 (by omega)),(B.cell _).trans (key 2 (by omega))⟩
theorem aG.aw {w:World} {t:TypeId} {A:Option Addr} {n c m:Nat} {l:List E} (S:aG w t 3 (.slice A n c) m (aw l)):n=m∧lk w A m l:=by
 have hl:=S.1;rw [an] at hl;have hlm:l.length=m:=by omega
 rcases S.2 with ⟨hv,h0⟩ | ⟨g,cap,rest,hv,B,hc,_⟩
 ·simp only [Value.slice.injEq] at hv;obtain ⟨rfl,rfl,rfl⟩:=hv;refine ⟨h0.symm,hlm,fun k e he=>?_⟩;have:=(List.getElem?_eq_some_iff.1 he).1;omega
 ·simp only [Value.slice.injEq] at hv;obtain ⟨rfl,rfl,rfl⟩:=hv;exact ⟨rfl,hlm,fun k e he=>⟨_,rfl,AF B k e he⟩⟩
theorem n8 {P:Program} {w:World} {t:TypeId} {v:Value} {n:Nat} {l:List Value} (S:aG w t 3 v n l)
  (T ty:TypeId) (z:Value) (bytes:Nat) (ht:P.underlying T=some (.slice t)) (kn:(P.info? t).map (fun i=>(i.zero,i.size,i.bytes))=some (some z,3,bytes)) (hz:z.cells.size=3)
  (e:E) (zg:n+1≤maxLen) (hb:(n+1)*bytes≤140737488355328):
  ∃v' w',dI P T ty (w.alloc (.cells #[.string e.key,.string e.val,.int .i64 e.aH] t)) v (.slice (some ⟨w.heap.size,0,none⟩) 1 1)= .ok v' w'∧aG w' t 3 v' (n+1) (l++e.cells)∧ag (ah v) w w'∧(∀g∈ah v',g∈ah v∨w.heap.size≤g):=by
 obtain ⟨i0,hi,iL,gM,iw⟩:=info_parts kn;obtain ⟨v',w',h1,h2,h3,h4⟩:=cN (P:=P) (S.alloc (.cells #[.string e.key,.string e.val,.int .i64 e.aH] t)) T ty i0 z bytes ht hi iL gM iw hz (by omega)
  ⟨w.heap.size,0,none⟩ 1 1 e.cells rfl (aV (l:=e.cells) (ax.new w t #[.string e.key,.string e.val,.int .i64 e.aH]) 0 _ (by intro j v hv; rw [Nat.zero_add]; exact hv)) (by intro u hu; simp [E.cells] at hu; rcases hu with rfl | rfl | rfl<;>rfl) zg hb
 exact ⟨v',w',h1,h2,((ag.refl _ _).alloc _).aS h3 (fun x hx _=>hx),fun g hg=>(h4 g hg).imp id (fun h=>by simp at h; omega)⟩
end Go.Proofs.YtmonobkginiajaaGreat.Nd
namespace Go.Proofs.YtmonobkginiajaaGreat.Nd
open Go.RowKit Sl
attribute [local go_sem ↓] aX
def mc (e:E):List UInt8:=UInt8.ofNat e.key.size::(e.key.data.toList++(dD (e.aH+1).toNat++e.val.data.toList))
def pI (e:E):ByteArray:=⟨(mc e).toArray⟩
theorem qI (a b:ByteArray):a++b=⟨(a.data.toList++b.data.toList).toArray⟩:=by
 have:=nJ a.data.toList b;rw [Fi] at this;exact this
theorem recB_eq (e:E):(⟨[UInt8.ofNat e.key.size].toArray⟩++e.key)++⟨(dD (e.aH+1).toNat).toArray⟩++e.val=pI e:=by
 rw [qI,qI,qI];unfold pI mc;simp
theorem qJ (w:World) (o:Obj):(w.alloc o).heap.size=w.heap.size+1:=by simp
theorem px {w:World} (e:E) (hk:e.key.size≤32) (hv:e.val.size≤40) (hf: -1≤e.aH) (vQ:e.aH≤511) {g n:Nat} {v:Value} {l:List (List UInt8)} (B:ax w g 123 #[v]) (S:aG w 9 1 v n (strs l)) (hg:g∉ah v) (hn:n≤1000000):
  Calls Tryz.prog 118 #[e.agg,.pointer (some ⟨g,0,none⟩)] w fun r w'=>r= .returned (.tuple #[])∧ ∃v',ax w' g 123 #[v']∧aG w' 9 1 v' (n+1) (strs (l++[mc e]))∧ag (g::ah v) w w'∧(∀x∈ah v',x∈ah v∨w.heap.size≤x):=by
 obtain ⟨A,c,rfl⟩:=aq S;have HR:=xh (recB_eq e);have hR2:Value.string (pI e)= .string ⟨(mc e).toArray⟩:=rfl;obtain ⟨m,hm⟩:=Int.eq_ofNat_of_zero_le (show 0≤e.aH+1 by omega);have IC:m≤512:=by omega
 have e0:Value.int .u8 ((m:Int) / 256)=bv (UInt8.ofNat (m / 256)):=by
  unfold bv
  congr 1
  rw [UInt8.toNat_ofNat'];omega
 have e1:Value.int .u8 ((m:Int) % 256)=bv (UInt8.ofNat m):=by
  unfold bv;rfl
 have e2:Value.int .u8 (e.key.size:Int)=bv (UInt8.ofNat e.key.size):=by
  unfold bv
  congr 1
  rw [UInt8.toNat_ofNat'];omega
 rw [hm,Int.toNat_natCast] at HR;have HE:=xh (show #[Value.int .u8 ((m:Int) / 256),Value.int .u8 ((m:Int) % 256)]=(cI (dD m)).toArray from by rw [e0,e1]; rfl);have HK:=xh (show #[Value.int .u8 (e.key.size:Int)]=(cI [UInt8.ofNat e.key.size]).toArray from by rw [e2]; rfl);have BX:=xh (ax.new w 111 #[.string e.key,.string e.val,.int .i64 e.aH])
 have s1:=bs (P:=Tryz.prog) ((w.alloc (.cells #[.string e.key,.string e.val,.int .i64 e.aH] 111)).alloc (.cells (cI [UInt8.ofNat e.key.size]).toArray 5)) 150 9 5 Tryz.underlying150 Tryz.underlying5 Tryz.underlying9 ⟨(w.alloc (.cells #[.string e.key,.string e.val,.int .i64 e.aH] 111)).heap.size,0,none⟩ 1 1 [UInt8.ofNat e.key.size] rfl (aV (l:=cI [UInt8.ofNat e.key.size]) (ax.new _ 5 _) 0 _ (by intro j u hu; rw [Nat.zero_add]; exact hu));rw [←HK.out,qJ] at s1
 have S1:=xh s1
 have s2:=bs (P:=Tryz.prog) (((w.alloc (.cells #[.string e.key,.string e.val,.int .i64 e.aH] 111)).alloc (.cells #[.int .u8 (e.key.size:Int)] 5)).alloc (.cells (cI (dD m)).toArray 5)) 150 9 5 Tryz.underlying150 Tryz.underlying5 Tryz.underlying9 ⟨((w.alloc (.cells #[.string e.key,.string e.val,.int .i64 e.aH] 111)).alloc (.cells #[.int .u8 (e.key.size:Int)] 5)).heap.size,0,none⟩ 2 2 (dD m) rfl (aV (l:=cI (dD m)) (ax.new _ 5 _) 0 _ (by intro j u hu; rw [Nat.zero_add]; exact hu))
 rw [←HE.out,qJ,qJ] at s2;have S2:=xh s2;have B1:=B.alloc (.cells #[.string e.key,.string e.val,.int .i64 e.aH] 111);have c1:(w.alloc (.cells #[.string e.key,.string e.val,.int .i64 e.aH] 111)).cell? ⟨g,0,none⟩=some (.slice A n c):=B1.ab (i:=0) rfl
 obtain ⟨v',w2,ea,SS,ow,fr⟩:=cd (P:=Tryz.prog) (((S.alloc (.cells #[.string e.key,.string e.val,.int .i64 e.aH] 111)).alloc (.cells #[.int .u8 (e.key.size:Int)] 5)).alloc (.cells #[Value.int .u8 ((m:Int) / 256),Value.int .u8 ((m:Int) % 256)] 5)) 123 123 (.string .empty) 16 Tryz.underlying123 rE rfl (.string (⟨#[UInt8.ofNat e.key.size]⟩++e.key++⟨(dD m).toArray⟩++e.val)) rfl (by unfold maxLen; omega) (by omega);obtain ⟨V2,fu,rfl⟩:=aq SS;rw [qJ,qJ,qJ] at ea
 have EA:=xh ea;clear s1 s2 ea;have OO:=xh (((((ag.refl (g::ah (.slice A n c)) w).alloc (.cells #[.string e.key,.string e.val,.int .i64 e.aH] 111)).alloc (.cells #[.int .u8 (e.key.size:Int)] 5)).alloc (.cells #[Value.int .u8 ((m:Int) / 256),Value.int .u8 ((m:Int) % 256)] 5)).aS ow (fun x hx _=>List.mem_cons_of_mem _ hx))
 have B2:=xh ((((B.alloc (.cells #[.string e.key,.string e.val,.int .i64 e.aH] 111)).alloc (.cells #[.int .u8 (e.key.size:Int)] 5)).alloc (.cells #[Value.int .u8 ((m:Int) / 256),Value.int .u8 ((m:Int) % 256)] 5)).only ow hg);have hR3:Value.string (⟨#[UInt8.ofNat e.key.size]⟩++e.key++⟨(dD m).toArray⟩++e.val)= .string ⟨(mc e).toArray⟩:=congrArg Value.string HR.out;rw [hR3,xb] at SS
 replace SS:=xh SS
 have c2:w2.cell? ⟨g,0,none⟩=some (.slice A n c):=B2.out.ab (i:=0) rfl;have c3:w2.frozen? ⟨g,0,none⟩=false:=B2.out.frozen 0 (by simp);have t8:(dD m).length=2:=rfl;have FR2:=xh (show ∀x∈ah (.slice V2 (n+1) fu),x∈ah (.slice A n c)∨w.heap.size≤x from fun x hx=>(fr x hx).imp id (fun h=>by rw [qJ,qJ,qJ] at h; omega));have NE:=xh (show g∉ah (.slice V2 (n+1) fu) from fun hx=>(FR2.out g hx).elim hg (fun h=>by have:=B.lt; omega));have HM:=xh hm;unfold E.agg
 clear B1 e0 e1 e2 ow fr S B hg hR2 hR3;have m1:IntKind.u8.wrap ((m:Int) / 256)=(m:Int) / 256:=IntWalk.u8_in _ (by omega);go_enter Tryz.func118,Tryz.ntmps118;go_wp2_with fail;rw [S1.out];go_wp2_with fail;rw [S2.out];go_wp2_with fail;rw [EA.out];go_wp2_with fail
 go_end0
 exact ⟨rfl,_,B2.out.bq 0 _,SS.out.only ((ag.refl [g] w2).setCell (fun _=>by simp) _) (fun x hx=>by simp; exact fun hh=>NE.out (hh▸hx)),OO.out.setCell (fun _=>by simp) _,FR2.out⟩
end Go.Proofs.YtmonobkginiajaaGreat.Nd
namespace Go.Proofs.YtmonobkginiajaaGreat.Nd
open Go.RowKit Sl
attribute [local go_sem ↓] Go.wp_at_zero Go.wp_at_succ
def xj (leaf:Bool):List UInt8:=if leaf=true then [1] else [2]
def fF (leaf:Bool) (l:List E):List (List UInt8):=xj leaf::l.map mc
theorem uw (leaf:Bool) (l:List E) (i:Nat) (e:E) (h:l[i]?=some e):fF leaf (l.take (i+1))=fF leaf (l.take i)++[mc e]:=by
 unfold fF;rw [List.take_add_one,h]; simp
theorem yL (leaf:Bool) (l:List E):(fF leaf l).length=l.length+1:=by simp [fF]
theorem me (e:E):(mc e).length=3+e.key.size+e.val.size:=by
 unfold mc dD;simp; omega
theorem put_no {w:World} (leaf:Bool) (A:Option Addr) (n c:Nat) (l:List E) (h:lk w A n l) (hn:n≤1000000) (hm: ¬cM l leaf):
  Calls Tryz.prog 68 #[aT leaf A n c] w fun r w'=>r= .returned (.tuple #[.string ⟨#[]⟩,.int .i64 2])∧Below w.heap.size w w':=by
 have O0:=(Below.refl w.heap.size w).alloc (Nat.le_refl _) (.cells #[.bool leaf,.slice A n c] 118);have KM:=xh (mS (w:=w.alloc (.cells #[.bool leaf,.slice A n c] 118)) leaf A n c l (h.below O0) (by omega));have O0:=xh O0;have HM:=xh hm;clear h hm;unfold aT at *;go_enter Tryz.func68,Tryz.ntmps68;go_wp2_with fail;refine KM.out.mono ?_;rintro r w1 ⟨⟨b,rfl,hb⟩,aM⟩;obtain rfl:b=false:=by
  cases b
  ·rfl
  ·exact absurd (hb.1 rfl) HM.out
 have O1:=xh (ao O0.out aM);clear hb aM;go_wp2_with fail;go_ret2;exact ⟨rfl,O1.out⟩
theorem put_yes {w:World} (leaf:Bool) (A:Option Addr) (n c:Nat) (l:List E) (h:lk w A n l) (hn:n≤1000) (hm:cM l leaf):
  Calls Tryz.prog 68 #[aT leaf A n c] w (Lw (fF leaf l) w):=by
 have O0:=(Below.refl w.heap.size w).alloc (Nat.le_refl _) (.cells #[.bool leaf,.slice A n c] 118);have hl:=xh h.1;have H0:=h.below O0;have KM:=xh (mS (w:=w.alloc (.cells #[.bool leaf,.slice A n c] 118)) leaf A n c l H0 (by omega));have B0:=xh (ax.new w 118 #[.bool leaf,.slice A n c]);have O0:=xh O0;have H0:=xh H0;have HM:=xh hm;have HH:=xh h
 have HQ:=xh (show ∀(i:Nat) (e:E),l[i]?=some e→e.key.size≤32∧e.val.size≤40∧ -1≤e.aH∧e.aH≤511 from fun i e he=>by
  have h2:=(uv e leaf).1 (hm i (List.getElem?_eq_some_iff.1 he).1 e he).1;exact ⟨h2.1,h2.2.1,h2.2.2.1,h2.2.2.2.1⟩)
 have HL:=xh (yL leaf l);have HS:=xh (show ∀r∈fF leaf l,r.length≤1000000 from fun r hr=>by
  unfold fF at hr
  rcases List.mem_cons.1 hr with rfl | hr
  ·unfold xj; split<;>decide
  ·obtain ⟨e,he,rfl⟩:=List.mem_map.1 hr;obtain ⟨i,hi,rfl⟩:=List.getElem_of_mem he;have:=HQ.out i _ (List.getElem?_eq_getElem hi);rw [me]; omega)
 clear h hm;unfold aT at *;go_enter Tryz.func68,Tryz.ntmps68;go_wp2_with fail;generalize (w.alloc (.cells #[.bool leaf,.slice A n c] 118))=W0 at *;refine KM.out.mono ?_;rintro r w1 ⟨⟨b,rfl,hb⟩,aM⟩;obtain rfl:b=true:=hb.2 HM.out;have O1:=xh (ao O0.out aM);have H1:=xh (H0.out.below aM);have B1:=xh (B0.out.below aM B0.out.lt);have c0:w1.cell? ⟨w.heap.size,0,none⟩=some (.bool leaf):=B1.out.ab (i:=0) rfl
 have c1:w1.cell? ⟨w.heap.size,1,none⟩=some (.slice A n c):=B1.out.ab (i:=1) rfl;have dL:=B1.out.lt;clear hb aM;have SK:=xh (show ∀k:List UInt8,aG ((w1.alloc (.cells #[.string ⟨k.toArray⟩] 9)).alloc (.cells #[.slice (some ⟨w1.heap.size,0,none⟩) 1 1] 123)) 9 1 (.slice (some ⟨w1.heap.size,0,none⟩) 1 1) 1 (strs [k]) from fun k=>⟨rfl,.inr ⟨w1.heap.size,1,[],rfl,(ax.new w1 9 #[.string ⟨k.toArray⟩]).alloc _,rfl,by unfold maxLen; omega⟩⟩)
 have BK:=xh (show ∀k:List UInt8,ax ((w1.alloc (.cells #[.string ⟨k.toArray⟩] 9)).alloc (.cells #[.slice (some ⟨w1.heap.size,0,none⟩) 1 1] 123)) (w1.heap.size+1) 123 #[.slice (some ⟨w1.heap.size,0,none⟩) 1 1] from fun k=>by
  have:=ax.new (w1.alloc (.cells #[.string ⟨k.toArray⟩] 9)) 123 #[.slice (some ⟨w1.heap.size,0,none⟩) 1 1];rw [qJ] at this;exact this)
 have OK:=xh (show ∀k:List UInt8,Below w.heap.size w ((w1.alloc (.cells #[.string ⟨k.toArray⟩] 9)).alloc (.cells #[.slice (some ⟨w1.heap.size,0,none⟩) 1 1] 123)) from fun k=>ao O1.out (ae (ae (Below.refl _ _) _) _))
 cases leaf
 ·replace SK:=xh (SK.out [2])
  replace BK:=xh (BK.out [2])
  replace OK:=xh (OK.out [2])
  go_wp2_with fail;generalize hW2:((w1.alloc (.cells #[.string ⟨#[2]⟩] 9)).alloc (.cells #[.slice (some ⟨w1.heap.size,0,none⟩) 1 1] 123))=W2 at *;clear hW2 c0 c1
  go_loopw [20] (fun iv wr=> ∃(i:Nat) (v':Value),i≤n∧iv= .int .i64 i∧ax wr (w1.heap.size+1) 123 #[v']∧aG wr 9 1 v' (i+1) (strs (fF false (l.take i)))∧Below w.heap.size w wr∧Hid (∀x∈ah v',w.heap.size≤x∧x≠w1.heap.size+1)) (fun iv _=>n-(intOf iv).toNat)
  case atStart=>exact ⟨0,_,Nat.zero_le _,rfl,BK.out,SK.out,OK.out,xh (fun x hx=>by simp [ah] at hx; omega)⟩
  case round=>
   obtain ⟨i,v',hi,rfl,B,S,O,F⟩:=hrel;obtain ⟨VA,vc,rfl⟩:=aq S;have hltr:=B.lt
   by_cases h:i<n
   ·obtain ⟨ad,e,rfl,he,AT⟩:=(HH.out.below O).at i h;have HT:=xh (uw false l i e he);obtain ⟨q1,q2,q3,q4⟩:=HQ.out i e he;have KP:=xh (px (w:=wr.alloc (.cells #[.string e.key,.string e.val,.int .i64 e.aH] 111)) e q1 q2 q3 q4 (B.alloc _) (S.alloc _) (fun hx=>(F.out _ hx).2 rfl) (by omega));have a0:=AT.c0;have a1:=AT.c1;have a2:=AT.c2;have OO:=xh O;have SZ:=xh (show w.heap.size≤w1.heap.size+1 from by omega);clear AT S B O he;go_wp2_with fail;refine KP.out.mono ?_
    rintro r w2 ⟨rfl,v2,B2,S2,o2,f2⟩;have F2:=xh (show ∀x∈ah v2,w.heap.size≤x∧x≠w1.heap.size+1 from fun x hx=>(f2 x hx).elim (F.out x) (fun h=>by rw [qJ] at h; have:=OO.out.size; omega));have O2:=xh ((OO.out.alloc OO.out.size (.cells #[.string e.key,.string e.val,.int .i64 e.aH] 111)).trans (o2.ay (by rw [qJ]; have:=OO.out.size; omega) (fun x hx=>by
     rcases List.mem_cons.1 hx with rfl | hx
     ·exact SZ.out
     ·exact (F.out x hx).1)))
    rw [←HT.out] at S2
    replace S2:=xh S2
    replace B2:=xh B2
    clear o2 f2;go_wp2_with fail;go_roundw
    case rel=>exact ⟨i+1,v2,by omega,by go_num,B2.out,S2.out,O2.out,F2⟩
    case measure=>simp [intOf]; omega
   ·obtain rfl:i=n:=by omega
    have hln:=hl.out;rw [List.take_of_length_le (by omega)] at S;have KO:=xh (Lx (l:=fF false l) (by rw [HL.out,hln]; exact S) (by rw [HL.out]; omega) HS.out);have b0:wr.cell? ⟨w1.heap.size+1,0,none⟩=some (.slice VA (i+1) vc):=B.ab (i:=0) rfl;have OO:=xh O;clear S B O hln;go_wp2_with fail;refine KO.out.mono ?_;rintro r w2 ⟨hx,bT⟩;have O2:=xh (ao OO.out bT);clear bT
    rcases hx with ⟨h0,T,rfl,sT,rT⟩ | ⟨h0,rfl⟩
    ·have HX:=xh (And.intro h0 (And.intro sT rT));clear h0 sT rT;go_wp2_with fail;go_ret2;exact ⟨.inl ⟨HX.out.1,T,rfl,HX.out.2.1,HX.out.2.2⟩,O2.out⟩
    ·have HX:=xh h0;clear h0;go_wp2_with fail;go_ret2;exact ⟨.inr ⟨HX.out,rfl⟩,O2.out⟩
 ·replace SK:=xh (SK.out [1])
  replace BK:=xh (BK.out [1])
  replace OK:=xh (OK.out [1])
  go_wp2_with fail;generalize hW2:((w1.alloc (.cells #[.string ⟨#[1]⟩] 9)).alloc (.cells #[.slice (some ⟨w1.heap.size,0,none⟩) 1 1] 123))=W2 at *;clear hW2 c0 c1
  go_loopw [20] (fun iv wr=> ∃(i:Nat) (v':Value),i≤n∧iv= .int .i64 i∧ax wr (w1.heap.size+1) 123 #[v']∧aG wr 9 1 v' (i+1) (strs (fF true (l.take i)))∧Below w.heap.size w wr∧Hid (∀x∈ah v',w.heap.size≤x∧x≠w1.heap.size+1)) (fun iv _=>n-(intOf iv).toNat)
  case atStart=>exact ⟨0,_,Nat.zero_le _,rfl,BK.out,SK.out,OK.out,xh (fun x hx=>by simp [ah] at hx; omega)⟩
  case round=>
   obtain ⟨i,v',hi,rfl,B,S,O,F⟩:=hrel;obtain ⟨VA,vc,rfl⟩:=aq S;have hltr:=B.lt
   by_cases h:i<n
   ·obtain ⟨ad,e,rfl,he,AT⟩:=(HH.out.below O).at i h;have HT:=xh (uw true l i e he);obtain ⟨q1,q2,q3,q4⟩:=HQ.out i e he;have KP:=xh (px (w:=wr.alloc (.cells #[.string e.key,.string e.val,.int .i64 e.aH] 111)) e q1 q2 q3 q4 (B.alloc _) (S.alloc _) (fun hx=>(F.out _ hx).2 rfl) (by omega));have a0:=AT.c0;have a1:=AT.c1;have a2:=AT.c2;have OO:=xh O;have SZ:=xh (show w.heap.size≤w1.heap.size+1 from by omega);clear AT S B O he;go_wp2_with fail;refine KP.out.mono ?_
    rintro r w2 ⟨rfl,v2,B2,S2,o2,f2⟩;have F2:=xh (show ∀x∈ah v2,w.heap.size≤x∧x≠w1.heap.size+1 from fun x hx=>(f2 x hx).elim (F.out x) (fun h=>by rw [qJ] at h; have:=OO.out.size; omega));have O2:=xh ((OO.out.alloc OO.out.size (.cells #[.string e.key,.string e.val,.int .i64 e.aH] 111)).trans (o2.ay (by rw [qJ]; have:=OO.out.size; omega) (fun x hx=>by
     rcases List.mem_cons.1 hx with rfl | hx
     ·exact SZ.out
     ·exact (F.out x hx).1)))
    rw [←HT.out] at S2
    replace S2:=xh S2
    replace B2:=xh B2
    clear o2 f2;go_wp2_with fail;go_roundw
    case rel=>exact ⟨i+1,v2,by omega,by go_num,B2.out,S2.out,O2.out,F2⟩
    case measure=>simp [intOf]; omega
   ·obtain rfl:i=n:=by omega
    have hln:=hl.out;rw [List.take_of_length_le (by omega)] at S;have KO:=xh (Lx (l:=fF true l) (by rw [HL.out,hln]; exact S) (by rw [HL.out]; omega) HS.out);have b0:wr.cell? ⟨w1.heap.size+1,0,none⟩=some (.slice VA (i+1) vc):=B.ab (i:=0) rfl;have OO:=xh O;clear S B O hln;go_wp2_with fail;refine KO.out.mono ?_;rintro r w2 ⟨hx,bT⟩;have O2:=xh (ao OO.out bT);clear bT
    rcases hx with ⟨h0,T,rfl,sT,rT⟩ | ⟨h0,rfl⟩
    ·have HX:=xh (And.intro h0 (And.intro sT rT));clear h0 sT rT;go_wp2_with fail;go_ret2;exact ⟨.inl ⟨HX.out.1,T,rfl,HX.out.2.1,HX.out.2.2⟩,O2.out⟩
    ·have HX:=xh h0;clear h0;go_wp2_with fail;go_ret2;exact ⟨.inr ⟨HX.out,rfl⟩,O2.out⟩
end Go.Proofs.YtmonobkginiajaaGreat.Nd
namespace Go.Proofs.YtmonobkginiajaaGreat.Nd
open Go.RowKit Sl
theorem qK {fn:Func} {p q:Tmp} {ty tz:TypeId} (h:fn.results= #[.cell p ty,.cell q tz]) (tmps:Array Value) (P:Program) (w:World):
  (results fn tmps).run P w=
   ((asAddr (tmps.getD p undef)).run P w).andThen fun a w₁=>((loadVar ty a).run P w₁).andThen fun v w₂=>((asAddr (tmps.getD q undef)).run P w₂).andThen fun a w₁=>((loadVar tz a).run P w₁).andThen fun u w₂=> .ok (.tuple #[v,u]) w₂:=by
 simp only [results,h];simp [Sem.run_bind,Result.andThen]
theorem dV {fn:Func} {p u:Tmp} {w:World} {g:Nat} {leaf:Bool} {A:Option Addr} {n c:Nat} {tmps:Array Value} (h:fn.results= #[.cell p 118,.tmp u]) (hp:tmps.getD p undef= .pointer (some ⟨g,0,none⟩)) (B:ax w g 118 #[.bool leaf,.slice A n c]):
  (results fn tmps).run Tryz.prog w= .ok (.tuple #[aT leaf A n c,tmps.getD u undef]) w:=by
 have c0:=B.ab (i:=0) rfl;have c1:=B.ab (i:=1) rfl;rw [results_cell_tmp h,hp];clear h hp B;unfold aT;go_simp
theorem DQ {fn:Func} {p q:Tmp} {w:World} {g g':Nat} {leaf leaf':Bool} {A A':Option Addr} {n c n' c':Nat} {tmps:Array Value} (h:fn.results= #[.cell p 118,.cell q 118]) (hp:tmps.getD p undef= .pointer (some ⟨g,0,none⟩)) (hq:tmps.getD q undef= .pointer (some ⟨g',0,none⟩)) (B:ax w g 118 #[.bool leaf,.slice A n c]) (B':ax w g' 118 #[.bool leaf',.slice A' n' c']):
  (results fn tmps).run Tryz.prog w= .ok (.tuple #[aT leaf A n c,aT leaf' A' n' c']) w:=by
 have c0:=B.ab (i:=0) rfl;have c1:=B.ab (i:=1) rfl;have d0:=B'.ab (i:=0) rfl;have d1:=B'.ab (i:=1) rfl;rw [qK h,hp,hq];clear h hp hq B B';unfold aT;go_simp
end Go.Proofs.YtmonobkginiajaaGreat.Nd
