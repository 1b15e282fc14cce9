/- packed. -/
import Derived.Test.YtmonobkginiajaaGreatQ1
import Derived.Deep.QuietTactic
import Derived.BigQuiet
set_option linter.all false
set_option maxRecDepth 100000
set_option maxHeartbeats 8000000
namespace Go.Proofs.YtmonobkginiajaaGreat.Fm
open Go.RowKit
def ints (l:List Int):List Value:=l.map (Value.int .i64)
@[simp] theorem ints_length (l:List Int):(ints l).length=l.length:=by simp [ints]
theorem Js (l:List Int) (k:Nat) (h:k<l.length):(ints l)[k]?=some (.int .i64 l[k]):=by simp [ints,h]
theorem ints_set (l:List Int) (k:Nat) (x:Int):(ints l).set k (.int .i64 x)=ints (l.set k x):=by simp [ints]
theorem zx (l m:List Int):ints (l++m)=ints l++ints m:=by simp [ints]
def vL (l:List Int) (i:Int):Bool:=decide (0≤i∧i<l.length)
def cF (l:List Int) (i:Int):List Int×Int:=
 if vL l i then (if l.getD i.toNat 0=2 then (l.set i.toNat 0,0) else if l.getD i.toNat 0=1 then (l.set i.toNat 3,0) else (l,9)) else (l,3)
def cm (l:List Int) (k:Int):Nat:=l.findIdx (· ==k)
def bV (l:List Int):List Int×Int×Int:=
 if cm l 0<l.length then (l.set (cm l 0) 2,cm l 0,0) else (l,0,11)
def kX (leaving fresh k:Int):Int:=if k=3 then leaving else if k=2 then fresh else k
def iP (leaving fresh:Int) (l:List Int):List Int:=l.map (kX leaving fresh)
def eV (l:List Int) (k:Int):Nat→List Int
 | 0=>[]
 | n+1=>eV l k n++if l.getD n 0=k then [(n:Int)] else []
def eJ (l:List Int) (k:Int):List Int:=eV l k l.length
theorem vM (l:List Int) (k:Int) (n:Nat):(eV l k n).length≤n:=by
 induction n with
 | zero=>simp [eV]
 | succ n ih=>simp only [eV,List.length_append]; split<;>simp<;>omega
theorem oU (a b:Int) (l:List Int):(iP a b l).length=l.length:=by simp [iP]
def gJ (a b:Int) (l:List Int) (k:Nat):List Int:=(l.take k).map (kX a b)++l.drop k
theorem vN (a b:Int) (l:List Int) (k:Nat):(gJ a b l k).length=l.length:=by
 simp [gJ]; omega
theorem zy (a b:Int) (l:List Int):gJ a b l 0=l:=by simp [gJ]
theorem Cv (a b:Int) (l:List Int):gJ a b l l.length=iP a b l:=by simp [gJ,iP]
theorem ta (a b:Int) (l:List Int) (k:Nat) (h:k<l.length):(gJ a b l k).getD k 0=l.getD k 0:=by
 unfold gJ;simp only [List.getD];rw [List.getElem?_append_right (by simp; omega)];simp [Nat.min_eq_left (Nat.le_of_lt h)]
theorem rn (a b:Int) (l:List Int) (k:Nat) (h:k<l.length):gJ a b l (k+1)=(gJ a b l k).set k (kX a b (l.getD k 0)):=by
 have hk:l.getD k 0=l[k]:=by simp [List.getD,List.getElem?_eq_getElem h]
 have h0:k-((l.take k).map (kX a b)).length=0:=by simp; omega
 rw [gJ,gJ,hk,List.take_succ_eq_append_getElem h,List.map_append,List.append_assoc,List.set_append_right _ _ (by simp; omega),h0,List.drop_eq_getElem_cons h];rfl
theorem Jt (l:List Int) (k:Nat):l.set k (l.getD k 0)=l:=by
 rcases Nat.lt_or_ge k l.length with h | h
 ·simp only [List.getD,List.getElem?_eq_getElem h,Option.getD_some]; exact List.set_getElem_self h
 ·exact List.set_eq_of_length_le h
theorem zz (a b:Int) (l:List Int) (k:Nat) (h:k<l.length) (h3:kX a b (l.getD k 0)=l.getD k 0):gJ a b l (k+1)=gJ a b l k:=by
 rw [rn a b l k h,h3,←ta a b l k h,Jt]
end Go.Proofs.YtmonobkginiajaaGreat.Fm
namespace Go.Proofs.YtmonobkginiajaaGreat.Fm
open Go.RowKit
theorem zA:(Tryz.prog.info? 3).map (fun i=>(i.zero,i.size,i.bytes))=some (some (.int .i64 0),1,8):=by kernel_rfl
structure cR (w:World) (b g:Nat) (l:List Int):Prop where
 hb:ax w b 218 #[.slice (some ⟨g,0,none⟩) l.length l.length]
 hg:ax w g 3 (ints l).toArray
 hl:l.length≤1024
def mp (b:Nat):Value:= .pointer (some ⟨b,0,none⟩)
section
variable {w w':World} {b g:Nat} {l:List Int} {S:List Nat}
theorem cR.ne (h:cR w b g l):b≠g:=h.hb.jF h.hg (by decide)
theorem cR.c0 (h:cR w b g l):w.cell? ⟨b,0,none⟩=some (.slice (some ⟨g,0,none⟩) l.length l.length):=h.hb.ab rfl
theorem cR.ck (h:cR w b g l) (k:Nat) (hk:k<l.length):w.cell? ⟨g,k,none⟩=some (.int .i64 (l.getD k 0)):=by
 refine h.hg.ab ?_;rw [List.getElem?_toArray,Js _ _ hk];simp [List.getD,List.getElem?_eq_getElem hk]
theorem cR.fk (h:cR w b g l) (k:Nat) (hk:k<l.length):w.frozen? ⟨g,k,none⟩=false:=h.hg.frozen k (by simpa using hk)
theorem cR.only (h:cR w b g l) (ho:ag S w w') (h1:b∉S) (h2:g∉S):cR w' b g l:=⟨h.hb.only ho h1,h.hg.only ho h2,h.hl⟩
theorem cR.below (h:cR w b g l) (hb:Below w.heap.size w w'):cR w' b g l:=h.only (S:=[]) (.ak hb) (by simp) (by simp)
theorem cR.drew (h:cR w b g l):cR w.drew b g l:=⟨h.hb,h.hg,h.hl⟩
theorem cR.bq (h:cR w b g l) (k:Nat) (x:Int):cR (w.setCell ⟨g,k,none⟩ (.int .i64 x)) b g (l.set k x):=by
 refine ⟨?_,?_,by simpa using h.hl⟩
 ·rw [List.length_set]; exact h.hb.aH (by exact h.ne) _
 ·have:=h.hg.bq k (.int .i64 x);rw [List.setIfInBounds_toArray,ints_set] at this;exact this
end
theorem xZ (n:Nat) (w:World) (h:n≤1024):
  Calls Tryz.prog 81 #[.int .i64 n] w fun e w'=> ∃b g,e= .returned (.tuple #[mp b,.int .i64 0])∧cR w' b g (List.replicate n 0)∧Below w.heap.size w w'∧w.heap.size≤b∧w.heap.size≤g:=by
 have hmk: ∀w':World,(Instr.makeSlice 60 (.int .i64 n) (.int .i64 n)).run Tryz.prog w'= .ok (.slice (some ⟨w'.heap.size,0,none⟩) n n) (w'.alloc (.cells (madeCells #[.int .i64 0] n) 3)):=fun w'=>by
  obtain ⟨i0,hi,iL,gM,iw⟩:=info_parts zA;have h:=run_make (P:=Tryz.prog) w' 60 3 i0 (.int .i64 0) Tryz.underlying60 hi iL .i64 .i64 n n (by omega) (Int.le_refl _) (by rw [iw]; omega) (by omega);simpa [gM,Value.cells] using h
 go_enter Tryz.func81,Tryz.ntmps81
 go_wp2
 go_ret2;refine ⟨w.heap.size+1,w.heap.size,rfl,⟨?_,?_,by simpa using h⟩,((Below.refl _ _).alloc (Nat.le_refl _) _).alloc (by simp) _,by omega,by omega⟩
 ·have:=ax.new (w.alloc (.cells (madeCells #[.int .i64 0] n) 3)) 218 #[.slice (some ⟨w.heap.size,0,none⟩) n n];simpa using this
 ·have:=(ax.new w 3 (madeCells #[.int .i64 0] n)).alloc (.cells #[.slice (some ⟨w.heap.size,0,none⟩) n n] 218);rw [fm] at this;rw [fm];simpa [ints] using this
theorem EI {w:World} {b g:Nat} {l:List Int} (m:cR w b g l) (i:Int) (h:vL l i=true):
  Calls Tryz.prog 183 #[mp b,.int .i64 i] w fun e w'=>e= .returned (.int .i64 0)∧w=w':=by
 simp only [vL,decide_eq_true_eq] at h;obtain ⟨h0,h1⟩:=h;have hl:=m.hl;have c0:=m.c0;unfold mp;go_enter Tryz.func183,Tryz.ntmps183
 go_wp2
 go_ret;exact ⟨rfl,rfl⟩
theorem at_no {w:World} {b g:Nat} {l:List Int} (m:cR w b g l) (i:Int) (h:vL l i=false):
  Calls Tryz.prog 183 #[mp b,.int .i64 i] w fun e w'=>e= .returned (.int .i64 3)∧w=w':=by
 simp only [vL,decide_eq_false_iff_not] at h;have h':i<0∨(¬i<0∧(l.length:Int)≤i):=by omega
 clear h;have hl:=m.hl;have c0:=m.c0;unfold mp
 rcases h' with h | ⟨h,h1⟩
 all_goals
  go_enter Tryz.func183,Tryz.ntmps183
  go_wp2
  go_ret;exact ⟨rfl,rfl⟩
end Go.Proofs.YtmonobkginiajaaGreat.Fm
namespace Go.Proofs.YtmonobkginiajaaGreat.Fm
open Go.RowKit
theorem mF {w:World} {b g:Nat} {l:List Int} (m:cR w b g l) (i:Int):
  Calls Tryz.prog 153 #[mp b,.int .i64 i] w fun e w'=>e= .returned (.int .i64 (cF l i).2)∧cR w' b g (cF l i).1∧ag [g] w w':=by
 by_cases nA:vL l i=true
 ·have td:=nA;simp only [vL,decide_eq_true_eq] at td;obtain ⟨h0,h1⟩:=td;obtain ⟨k,rfl⟩:=Int.eq_ofNat_of_zero_le h0;have hk:k<l.length:=by omega
  have c0:=m.c0;have ck:=m.ck k hk;have fk:=m.fk k hk
  by_cases hz:l.getD k 0=2
  ·have hu:cF l k=(l.set k 0,0):=by simp only [cF,nA,if_true,Int.toNat_natCast,hz]
   rw [hu];rw [hz] at ck;have HU:=xh (m.bq k 0);clear hz hu;unfold mp;go_enter Tryz.func153,Tryz.ntmps153;go_wp2_with fail;refine (EI m k nA).mono ?_;rintro e w1 ⟨rfl,rfl⟩;go_wp2_with fail;go_ret;exact ⟨rfl,HU.out,(ag.refl _ _).setCell (by simp) _⟩
  ·by_cases gM:l.getD k 0=1
   ·have hu:cF l k=(l.set k 3,0):=by simp only [cF,nA,if_true,Int.toNat_natCast,gM]; rfl
    rw [hu];rw [gM] at ck;have HU:=xh (m.bq k 3);clear hz gM hu;unfold mp;go_enter Tryz.func153,Tryz.ntmps153;go_wp2_with fail;refine (EI m k nA).mono ?_;rintro e w1 ⟨rfl,rfl⟩;go_wp2_with fail;go_ret;exact ⟨rfl,HU.out,(ag.refl _ _).setCell (by simp) _⟩
   ·have hu:cF l k=(l,9):=by simp only [cF,nA,if_true,Int.toNat_natCast,if_neg hz,if_neg gM]
    rw [hu];clear hu fk;generalize l.getD k 0=x at ck hz gM;unfold mp;go_enter Tryz.func153,Tryz.ntmps153;go_wp2_with fail;refine (EI m k nA).mono ?_;rintro e w1 ⟨rfl,rfl⟩;go_wp2_with fail;go_ret;exact ⟨rfl,m,ag.refl _ _⟩
 ·have td:vL l i=false:=by simpa using nA
  have hu:cF l i=(l,3):=by simp only [cF,td]; rfl
  rw [hu];clear hu;unfold mp;go_enter Tryz.func153,Tryz.ntmps153;go_wp2_with fail;refine (at_no m i td).mono ?_;rintro e w1 ⟨rfl,rfl⟩;go_wp2_with fail;go_ret;exact ⟨rfl,m,ag.refl _ _⟩
theorem zB (l:List Int) (k:Int) (n:Nat) (hn:n≤l.length) (h: ∀j,j<n→l.getD j 0≠k):n≤cm l k:=by
 rcases Nat.lt_or_ge (cm l k) n with dL | BR
 ·have h1:l.findIdx (· ==k)<l.length:=by unfold cm at dL; omega
  have h2:=List.findIdx_getElem (w:=h1);have h3:=h _ dL;unfold cm at h3;simp only [List.getD,List.getElem?_eq_getElem h1,Option.getD_some] at h3;exact absurd (by simpa using h2) h3
 ·exact BR
theorem Ju (l:List Int) (k:Int) (n:Nat) (hn:n<l.length) (h: ∀j,j<n→l.getD j 0≠k) (hk:l.getD n 0=k):cm l k=n:=by
 have h1:=zB l k n (by omega) h;have h2:cm l k≤n:=by
  unfold cm;have hg:l[n]=k:=by simpa [List.getD,List.getElem?_eq_getElem hn] using hk
  rcases Nat.lt_or_ge n (l.findIdx (· ==k)) with dL | BR
  ·have:=List.not_of_lt_findIdx dL;simp [hg] at this
  ·exact BR
 omega
theorem Cw (l:List Int) (k:Int) (h: ∀j,j<l.length→l.getD j 0≠k):cm l k=l.length:=by
 have:=zB l k l.length (Nat.le_refl _) h;have h2:cm l k≤l.length:=List.findIdx_le_length;omega
def iy (l:List Int) (k:Int):Int:=if cm l k<l.length then (cm l k:Int) else -1
theorem mG (g n c:Nat) (l:List Int) (hn:n=l.length) (hm:n≤1000000) (k:Int) (w:World) (hc: ∀j,j<l.length→w.cell? ⟨g,j,none⟩=some (.int .i64 (l.getD j 0))):
  Calls Tryz.prog 165 #[.slice (some ⟨g,0,none⟩) n c,.int .i64 k] w fun e w'=>e= .returned (.int .i64 (iy l k))∧w=w':=by
 subst hn;go_enter Tryz.func165,Tryz.ntmps165
 go_wp2
 go_loop [5,8] (fun _ i=> ∃j:Nat,j≤l.length∧i= .int .i64 j∧Hid (∀x,x<j→l.getD x 0≠k)) (fun _ i=>l.length-(intOf i).toNat)
 case atStart=>exact ⟨0,by omega,rfl,xh (by omega)⟩
 case round=>
  obtain ⟨j,hj,rfl,H⟩:=hrel
  by_cases h:j<l.length
  ·have cj:=hc j h;clear hc
   by_cases hk:l.getD j 0=k
   ·have he:iy l k=j:=by unfold iy; rw [Ju l k j h H.out hk,if_pos h]
    have HE:=xh he;clear he;rw [hk] at cj;clear hk
    go_wp2
    go_ret;exact ⟨by rw [HE.out]; rfl,rfl⟩
   ·have H2:=xh (show ∀x,x<j+1→l.getD x 0≠k from fun x hx=>by
     rcases Nat.lt_or_ge x j with h1 | h1
     ·exact H.out x h1
     ·have:x=j:=by omega
      subst this; exact hk)
    have hk':(k==l.getD j 0)=false:=by simp; exact fun e=>hk e.symm
    clear hk;generalize l.getD j 0=y at *
    go_wp2
    go_round
    case rel=>exact ⟨j+1,by omega,by go_num,H2⟩
    case measure=>simp [intOf]; omega
  ·have hjl:j=l.length:=by omega
   have he:iy l k= -1:=by
    unfold iy; rw [Cw l k (by rw [←hjl]; exact H.out),if_neg (by omega)]
   have HE:=xh he;clear he hjl hc
   go_wp2
   go_ret;exact ⟨by rw [HE.out]; rfl,rfl⟩
theorem wF {w:World} {b g:Nat} {l:List Int} (m:cR w b g l) (k:Int):
  Calls Tryz.prog 195 #[mp b,.int .i64 k] w fun e w'=>e= .returned (.int .i64 (iy l k))∧w=w':=by
 have hl:=m.hl;have c0:=m.c0;have HC:=xh m.ck;unfold mp;go_enter Tryz.func195,Tryz.ntmps195;go_wp2_with fail;refine (mG g _ _ l rfl (by omega) k _ HC.out).mono ?_;rintro e w1 ⟨rfl,rfl⟩;go_wp2_with fail;go_ret;exact ⟨rfl,rfl⟩
theorem oO {w:World} {b g:Nat} {l:List Int} (m:cR w b g l):
  Calls Tryz.prog 151 #[mp b] w fun e w'=>e= .returned (.tuple #[.int .i64 (bV l).2.1,.int .i64 (bV l).2.2])∧cR w' b g (bV l).1∧ag [g] w w':=by
 have hl:=m.hl;have c0:=m.c0
 by_cases h:cm l 0<l.length
 ·have hu:bV l=(l.set (cm l 0) 2,(cm l 0:Int),0):=by rw [bV,if_pos h]
  have hi:iy l 0=cm l 0:=by rw [iy,if_pos h]
  rw [hu];have K:=xh (hi▸wF m 0);have ck:=m.ck _ h;have fk:=m.fk _ h;have HU:=xh (m.bq (cm l 0) 2);clear hu hi;generalize cm l 0=k at *;unfold mp at *;go_enter Tryz.func151,Tryz.ntmps151;go_wp2_with fail;refine (K.out).mono ?_;rintro e w1 ⟨rfl,rfl⟩;go_wp2_with fail;go_ret2;exact ⟨rfl,HU.out,(ag.refl _ _).setCell (by simp) _⟩
 ·have hu:bV l=(l,0,11):=by rw [bV,if_neg h]
  have hi:iy l 0= -1:=by rw [iy,if_neg h]
  rw [hu];have K:=xh (hi▸wF m 0);clear hu hi h;unfold mp at *;go_enter Tryz.func151,Tryz.ntmps151;go_wp2_with fail;refine (K.out).mono ?_;rintro e w1 ⟨rfl,rfl⟩;go_wp2_with fail;go_ret2;exact ⟨rfl,m,ag.refl _ _⟩
end Go.Proofs.YtmonobkginiajaaGreat.Fm
namespace Go.Proofs.YtmonobkginiajaaGreat.Fm
open Go.RowKit
theorem Jv {w:World} {b g:Nat} {l:List Int} (m:cR w b g l) (a c:Int):
  Calls Tryz.prog 200 #[mp b,.int .i64 a,.int .i64 c] w fun e w'=>e= .returned (.bool true)∧cR w' b g (iP a c l)∧ag [g] w w':=by
 have hl:=m.hl;have c0:=m.c0;have HM:=xh m;clear m;unfold mp;go_enter Tryz.func200,Tryz.ntmps200
 go_wp2
 go_loopw [7,8,16] (fun _ _ i wr=> ∃k:Nat,k≤l.length∧i= .int .i64 k∧cR wr b g (gJ a c l k)∧ag [g] w wr) (fun _ _ i _=>l.length-(intOf i).toNat)
 case atStart=>exact ⟨0,by omega,rfl,by rw [zy]; exact HM.out,ag.refl _ _⟩
 case round=>
  obtain ⟨k,hk,rfl,M,O⟩:=hrel;have HL:=xh (vN a c l k)
  by_cases h:k<l.length
  ·have c0r:wr.cell? ⟨b,0,none⟩=some (.slice (some ⟨g,0,none⟩) l.length l.length):=by rw [←HL.out]; exact M.c0
   have ck:=M.ck k (by rw [HL.out]; exact h);have fk:=M.fk k (by rw [HL.out]; exact h);rw [ta a c l k h] at ck;have HS:=xh (rn a c l k h);have HE:=xh (zz a c l k h);have M3:=xh (M.bq k)
   by_cases h3:l.getD k 0=3
   ·rw [h3] at ck;have HX:=xh h3;clear h3
    go_wp2
    go_roundw
    case rel=>exact ⟨k+1,by omega,by go_num,by rw [HS.out,HX.out]; exact M3.out a,O.setCell (by simp) _⟩
    case measure=>simp [intOf]; omega
   ·by_cases h2:l.getD k 0=2
    ·rw [h2] at ck;have HX:=xh h2;clear h3 h2
     go_wp2
     go_roundw
     case rel=>exact ⟨k+1,by omega,by go_num,by rw [HS.out,HX.out]; exact M3.out c,O.setCell (by simp) _⟩
     case measure=>simp [intOf]; omega
    ·have HX:=xh (HE.out (by rw [kX,if_neg h3,if_neg h2]));generalize l.getD k 0=x at *
     go_wp2
     go_roundw
     case rel=>exact ⟨k+1,by omega,by go_num,by rw [HX.out]; exact M,O⟩
     case measure=>simp [intOf]; omega
  ·have gw:k=l.length:=by omega
   have HX:=xh gw;clear gw
   go_wp2
   go_ret;exact ⟨rfl,by rw [←Cv,←HX.out]; exact M,O⟩
theorem Cx {w:World} {b g:Nat} {l:List Int} (m:cR w b g l):
  Calls Tryz.prog 154 #[mp b] w fun e w'=>e= .returned (.bool true)∧cR w' b g (iP 0 1 l)∧ag [g] w w':=by
 have K:=xh (Jv m);unfold mp at *;go_enter Tryz.func154,Tryz.ntmps154;go_wp2_with fail;refine (K.out _ _).mono ?_;rintro e w1 ⟨rfl,m1,o1⟩;go_wp2_with fail;go_ret;exact ⟨rfl,m1,o1⟩
theorem Cy {w:World} {v:Value} {n:Nat} {l:List Int} (S:aG w 3 1 v n (ints l)) (x:Int) (hn:n≤1000000):
  ∃v' w',(Builtin.append_ #[60,60] 60 #[v,.slice (some ⟨w.heap.size,0,none⟩) 1 1]).run Tryz.prog (w.alloc (.cells #[.int .i64 x] 3))= .ok v' w'∧aG w' 3 1 v' (n+1) (ints (l++[x]))∧ag (ah v) w w'∧(∀g∈ah v',g∈ah v∨w.heap.size≤g):=by
 obtain ⟨i0,hi,iL,gM,iw⟩:=info_parts zA;obtain ⟨v',w',h1,h2,h3,h4⟩:=cN (P:=Tryz.prog) (S.alloc (.cells #[.int .i64 x] 3)) 60 60 i0 (.int .i64 0) 8 Tryz.underlying60 hi iL gM iw rfl (by omega)
  ⟨w.heap.size,0,none⟩ 1 1 [.int .i64 x] rfl (aV (l:=[.int .i64 x]) (ax.new w 3 #[.int .i64 x]) 0 _ (by simp)) (by simp [Value.oneCell']) (by unfold maxLen; omega) (by omega)
 refine ⟨v',w',h1,by rw [zx]; exact h2,((ag.refl _ _).alloc _).aS h3 (fun x hx _=>hx),fun g hg=>(h4 g hg).imp id (fun h=>by simp at h; omega)⟩
theorem ic {w:World} {b g:Nat} {l:List Int} (m:cR w b g l) (kind:Int):
  Calls Tryz.prog 194 #[mp b,.int .i64 kind] w fun e w'=> ∃v,e= .returned v∧aG w' 3 1 v (eJ l kind).length (ints (eJ l kind))∧Below w.heap.size w w'∧(∀x∈ah v,w.heap.size≤x):=by
 have hl:=m.hl;have c0:=m.c0;have HM:=xh m;clear m;unfold mp;go_enter Tryz.func194,Tryz.ntmps194
 go_wp2
 go_loopw [5,6,7,16] (fun v _ _ i wr=> ∃k:Nat,k≤l.length∧i= .int .i64 k∧aG wr 3 1 v (eV l kind k).length (ints (eV l kind k))∧Below w.heap.size w wr∧(∀x∈ah v,w.heap.size≤x)) (fun _ _ _ i _=>l.length-(intOf i).toNat)
 case atStart=>exact ⟨0,by omega,rfl,aG.nil _ _ _,Below.refl _ _,by simp [ah]⟩
 case round=>
  obtain ⟨k,hk,rfl,S,O,F⟩:=hrel;have F:=xh F;have dL:=vM l kind k
  by_cases h:k<l.length
  ·have M:=HM.out.below O;have ck:=M.ck k h
   by_cases h3:l.getD k 0=kind
   ·have HX:=xh (show eV l kind (k+1)=eV l kind k++[(k:Int)] by simp only [eV,if_pos h3]);rw [h3] at ck;clear h3 M;obtain ⟨v',w',ea,S',O',F'⟩:=Cy S k (by omega);have F':=xh F';have EA:=xh ea;clear ea;generalize eV l kind k=L at *;go_wp2_with (at_builtin; refine wpList_append_run rfl _ _ _ rfl _ _ rfl rfl EA.out ?_);go_roundw
    case rel=>exact ⟨k+1,by omega,by go_num,by rw [HX.out]; simpa using S',O.trans (O'.ay O.size F.out),fun x hx=>(F'.out x hx).elim (F.out x) (fun h=>Nat.le_trans O.size h)⟩
    case measure=>simp [intOf]; omega
   ·have HX:=xh (show eV l kind (k+1)=eV l kind k by simp only [eV,if_neg h3]; simp);generalize l.getD k 0=x at *;clear M;have eg:(x==kind)=false:=by simpa using h3
    go_wp2
    go_roundw
    case rel=>exact ⟨k+1,by omega,by go_num,by rw [HX.out]; exact S,O,F.out⟩
    case measure=>simp [intOf]; omega
  ·have gw:k=l.length:=by omega
   have HX:=xh gw;clear gw
   go_wp2
   go_ret;refine ⟨_,rfl,?_,O,F.out⟩;unfold eJ;rw [←HX.out];exact S
end Go.Proofs.YtmonobkginiajaaGreat.Fm
namespace Go.Proofs.YtmonobkginiajaaGreat.Fm
open Go.RowKit
theorem slc_len {w:World} {e:TypeId} {size n:Nat} {v:Value} {l:List Value} (S:aG w e size v n l): ∃A c,v= .slice A n c:=by
 rcases S.2 with ⟨rfl,rfl⟩ | ⟨g,cap,rest,rfl,_⟩
 ·exact ⟨none,0,rfl⟩
 ·exact ⟨_,cap,rfl⟩
theorem Jw {w:World} {b g:Nat} {l:List Int} (m:cR w b g l):
  Calls Tryz.prog 150 #[mp b] w fun e w'=>e= .returned (.int .i64 (eJ l 0).length)∧Below w.heap.size w w':=by
 have K:=xh (ic m 0);unfold mp at *;go_enter Tryz.func150,Tryz.ntmps150;go_wp2_with fail;refine (K.out).mono ?_;rintro e w1 ⟨v,rfl,S,hb,-⟩;obtain ⟨A,c,rfl⟩:=slc_len S;go_wp2_with fail;go_ret;exact ⟨rfl,hb⟩
def bu (l:List Int) (i:Int):Bool:=vL l i && (l.getD i.toNat 0==2)
theorem mH {w:World} {b g:Nat} {l:List Int} (m:cR w b g l) (i:Int):
  Calls Tryz.prog 192 #[mp b,.int .i64 i] w fun e w'=>e= .returned (.bool (bu l i))∧w=w':=by
 by_cases nA:vL l i=true
 ·have td:=nA;simp only [vL,decide_eq_true_eq] at td;obtain ⟨h0,h1⟩:=td;obtain ⟨k,rfl⟩:=Int.eq_ofNat_of_zero_le h0;have hk:k<l.length:=by omega
  have c0:=m.c0;have ck:=m.ck k hk;have HF:=xh (show bu l k=(l.getD k 0==2) by simp only [bu,nA,Bool.true_and,Int.toNat_natCast]);generalize l.getD k 0=x at ck HF;unfold mp;go_enter Tryz.func192,Tryz.ntmps192;go_wp2_with fail;refine (EI m k nA).mono ?_;rintro e w1 ⟨rfl,rfl⟩;go_wp2_with fail;go_ret;exact ⟨by rw [HF.out]; rfl,rfl⟩
 ·have td:vL l i=false:=by simpa using nA
  have HF:=xh (show bu l i=false by simp only [bu,td,Bool.false_and]);unfold mp;go_enter Tryz.func192,Tryz.ntmps192;go_wp2_with fail;refine (at_no m i td).mono ?_;rintro e w1 ⟨rfl,rfl⟩;go_wp2_with fail;go_ret;exact ⟨by rw [HF.out]; rfl,rfl⟩
end Go.Proofs.YtmonobkginiajaaGreat.Fm
