/- pool's laws: Aborts. -/
import Derived.Test.YtbelcgjbhpjnpaaGreatAb
import Derived.Test.YtbelcgjbhpjnpaaGreatDr
import Derived.Test.YtbelcgjbhpjnpaaGreatDw
import Derived.Test.YtbelcgjbhpjnpaaGreatDs2
import Derived.Test.YtbelcgjbhpjnpaaGreatPv
import Derived.Deep.Cut
import Derived.Deep.CutRange
set_option linter.all false
set_option linter.unusedVariables false
set_option linter.unusedSimpArgs false
namespace Go.Proofs.YtbelcgjbhpjnpaaGreat.Sh
open Go.RowKit Pk Dk Pg
attribute [local go_sem ↓] Go.wp_at_zero Go.wp_at_succ
section
variable {gs : List Nat} {wb w0 w W : World} {pq xq rs n K : Nat} {qp qx : QS}
theorem PX.guardO (S : PX w0 w pq xq rs n qp qx K) {fv nv ov : Value} (R : RPAt w xq rs fv nv ov qx) : PXG (ownB ov) w w0 w pq xq rs n qp qx K := by
 obtain ⟨y, e, ⟨c, A, z⟩, f⟩ := S.p
 have hap := R.apart A
 refine ⟨⟨y, e, ⟨c, A, z⟩, f, fun g hg => hap g (by simp [hg])⟩, fun g hg => ?_, fun g hg => rfl, S.x, S.hp, S.hx, S.b, S.f⟩
 obtain ⟨cs, B⟩ := frame_blk R.hs.ho g hg
 exact ⟨B.lt, B.ne_ R.hp (by decide), B.ne_ R.hs.hb (by decide)⟩
theorem PXG.call (S : PXG gs wb w0 W pq xq rs n qp qx K) {f : FuncId} {args : Array Value} {R : Value} {qp' : QS} {K' : Nat} (hK : K ≤ K') (H' : Hq qp' n K')
  (hc : ∀ y, y.pb = pq → ZP W y n qp K → Calls Tryz.prog f args W fun e W' => e = .returned R ∧ ZTo W W' y n qp' K') :
  Calls Tryz.prog f args W fun e W' => e = .returned R ∧ PXG gs wb w0 W' pq xq rs n qp' qx K' := by
 obtain ⟨y, e, Z, fr⟩ := S.p
 obtain ⟨c, A, z⟩ := Z
 exact (hc y e ⟨c, A, z⟩).mono fun e' W' ⟨r, p⟩ => ⟨r, S.prog e A fr hK H' p⟩
theorem PXG.get (S : PXG gs wb w0 w pq xq rs n qp qx K) (hK : K ≤ 800000) (l : Int) :
  Calls Tryz.prog 46 #[pp pq, .int .i64 l] w fun e W => e = .returned (.tuple #[.string (qp.getF l).2.1, .int .i64 (qp.getF l).2.2]) ∧ PXG gs wb w0 W pq xq rs n (qp.getF l).1 qx (K + 1) :=
 S.call (by omega) (S.hp.get l) (fun y e Z => by rw [← e]; exact (zget_any Z S.hp (by omega) l).mono fun e w' h => ⟨h.1, .self h.2.1 h.2.2⟩)
theorem PXG.abort (S : PXG gs wb w0 w pq xq rs n qp qx K) :
  Calls Tryz.prog 50 #[pp pq] w fun e W => e = .returned (.bool true) ∧ PXG gs wb w0 W pq xq rs n qp.abortF qx K :=
 S.call (by omega) S.hp.abort (fun y e Z => by rw [← e]; exact zpabort_any Z)
end
set_option maxRecDepth 100000 in
set_option maxHeartbeats 8000000 in
theorem poolAborts_any {w : World} (A : Option Addr) (m cc : Nat) (F : Nat → Sv) (hm : m ≤ 9223372036854775807) (hA : SvActs w A m F) (A2 : Option Addr) (m2 cc2 : Nat) (F2 : Nat → Sv) (hm2 : m2 ≤ 9223372036854775807) (hA2 : SvActs w A2 m2 F2) :
  Calls Tryz.prog 10 #[.slice A m cc, .slice A2 m2 cc2] w fun e w' => e = .returned (.bool true) ∧ Below w.heap.size w w' := by
 have KB := Lib.hid (begun15_any w 3 40 (by omega) (by omega) (by omega) (by omega))
 rw [show 2 + 4 * 40 = 162 from rfl] at KB
 have KA := Lib.hid awake15
 have HA := Lib.hid (fun (W : World) (hb : Below w.heap.size w W) => hA.below hb)
 have HA2 := Lib.hid (fun (W : World) (hb : Below w.heap.size w W) => hA2.below hb)
 have KS := Lib.hid short15_any
 have KDO := Lib.hid (fun (W : World) (pq xq rs K : Nat) (q qx : QS) (S : PX w W pq xq rs 162 q qx K) (hK : K ≤ 800000) (kd l : Int) (s : ByteArray) (hs : s.size ≤ 1000000) => S.do_ hK kd l s hs)
 have KDG := Lib.hid (fun (gs : List Nat) (wb W : World) (pq xq rs K : Nat) (q qx : QS) (S : PXG gs wb w W pq xq rs 162 q qx K) (hK : K ≤ 800000) (kd l : Int) (s : ByteArray) (hs : s.size ≤ 1000000) => S.do_ hK kd l s hs)
 have KCM := Lib.hid (fun (W : World) (pq xq rs K : Nat) (q qx : QS) (S : PX w W pq xq rs 162 q qx K) (hK : K ≤ 800000) => S.commit hK)
 have KCX := Lib.hid (fun (W : World) (pq xq rs K : Nat) (q qx : QS) (S : PX w W pq xq rs 162 q qx K) (hK : K ≤ 800000) => S.xcommit hK)
 have KAB := Lib.hid (fun (gs : List Nat) (wb W : World) (pq xq rs K : Nat) (q qx : QS) (S : PXG gs wb w W pq xq rs 162 q qx K) => S.abort)
 have KGT := Lib.hid (fun (gs : List Nat) (wb W : World) (pq xq rs K : Nat) (q qx : QS) (S : PXG gs wb w W pq xq rs 162 q qx K) (hK : K ≤ 800000) (l : Int) => S.get hK l)
 have KCT := Lib.hid (fun (W : World) (pq xq rs K : Nat) (q qx : QS) (S : PX w W pq xq rs 162 q qx K) => S.count)
 clear hA hA2
 unfold pp rp at *
 go_enter Tryz.func10, Tryz.ntmps10
 go_wp2_with fail
 refine KB.out.mono ?_
 rintro e w1 ⟨pq, xq, rs, rfl, P1⟩
 have P1 := Lib.hid P1
 go_wp2_with fail
 refine (KA.out w1).mono ?_
 rintro e w2 ⟨rfl, hb2⟩
 have P2 := Lib.hid (P1.out.below hb2)
 clear hb2
 go_upto_region 4 with (fail)
 iterate 7 (first | go_values | go_skip | go_guarded | go_step | go_upon | go_back)
 go_cut [] from 27 to 56 (fun wx => ∃ (q : QS) (K : Nat), K ≤ 1201 ∧ Hid (PX w wx pq xq rs 162 q q K))
 case first =>
  go_wp2_with fail
  go_loopw [7] (fun iv wx => ∃ (i : Nat) (q : QS) (K : Nat), i ≤ 30 ∧ iv = .int .i64 i ∧ Hid (K + 40 * (30 - i) ≤ 1201) ∧ Hid (PX w wx pq xq rs 162 q q K)) (fun iv _ => 30 - (intOf iv).toNat)
  case atStart => exact ⟨0, _, 1, Nat.zero_le _, rfl, Lib.hid (by omega), P2⟩
  case round =>
   obtain ⟨i, q, K, hi, rfl, HKK, HP⟩ := hrel
   by_cases h1 : i < m
   ·have h1I : (i : Int) < (m : Int) := by omega
    by_cases h2 : i < 30
    ·have h2I : (i : Int) < 30 := by omega
     obtain ⟨ad, rfl, hSa⟩ := HA.out wr HP.out.b i h1
     obtain ⟨c0, c1, c2⟩ := hSa
     have HC := Lib.hid (show ∀ W, Below w.heap.size w W → SvAt W (ad.add (i * 3)) (F i) from fun W hb => by
      obtain ⟨ad', e, h⟩ := HA.out W hb i h1
      injection e with e
      rw [e]; exact h)
     generalize F i = sa at c0 c1 c2 HC
     obtain ⟨kd, l, s⟩ := sa
     dsimp only at c0 c1 c2
     have KS2 := Lib.hid (fun (W : World) => KS.out kd l s W _ rfl)
     have ei : IntKind.i64.wrap ((i : Int) + 1) = ((i + 1 : Nat) : Int) := IntWalk.i64_in _ (by omega)
     obtain ⟨bb, hbb⟩ : ∃ bb, decide (s.size < 500) = bb := ⟨_, rfl⟩
     rw [hbb] at KS2
     have HBB := Lib.hid hbb
     clear hbb
     go_wp2_with fail
     refine (KS2.out _).mono ?_
     rintro e w3 ⟨rfl, hb3⟩
     have P3 := Lib.hid (HP.out.below hb3)
     obtain ⟨d0, d1, d2⟩ := HC.out w3 P3.out.b
     dsimp only at d0 d1 d2
     clear hb3 c0 c1 c2
     have HK2 := Lib.hid (show K + 40 * (30 - (i + 1)) ≤ 1201 from by have := HKK.out; omega)
     have HK3 := Lib.hid (show K + 40 + 40 * (30 - (i + 1)) ≤ 1201 from by have := HKK.out; omega)
     cases bb
     ·go_wp2_with fail
      go_roundw
      case rel => exact ⟨i + 1, q, K, by omega, by go_num, HK2, P3⟩
      case measure => simp [intOf]; omega
     ·by_cases hx : kd = 2
      ·have hxq : (kd == 2) = true := by simpa using hx
       clear hx
       go_wp2_with fail
       go_roundw
       case rel => exact ⟨i + 1, q, K, by omega, by go_num, HK2, P3⟩
       case measure => simp [intOf]; omega
      ·have hxq : (kd == 2) = false := by rw [beq_eq_false_iff_ne]; exact hx
       have hsz : s.size ≤ 1000000 := by have := of_decide_eq_true HBB.out; omega
       have KD := Lib.hid (KDO.out _ _ _ _ _ _ _ P3.out (by have := HKK.out; omega) kd l s hsz)
       clear hx hsz
       go_wp2_with fail
       refine KD.out.mono ?_
       rintro e w4 ⟨⟨β, rfl⟩, P4⟩
       have P4 := Lib.hid P4
       clear d0 d1 d2
       go_wp2_with fail
       go_roundw
       case rel => exact ⟨i + 1, _, K + 40, by omega, by go_num, HK3, P4⟩
       case measure => simp [intOf]; omega
    ·have h2I : ¬ (i : Int) < 30 := by omega
     go_wp2_with fail
     go_meet
     exact ⟨q, K, by have := HKK.out; omega, HP⟩
   ·have h1I : ¬ (i : Int) < (m : Int) := by omega
    go_wp2_with fail
    go_meet
    exact ⟨q, K, by have := HKK.out; omega, HP⟩
 case rest =>
  obtain ⟨q0, K0, hK0, HP0⟩ := hcut
  have KC := Lib.hid (KCM.out _ _ _ _ _ _ _ HP0.out (by omega))
  obtain ⟨E, hE⟩ : ∃ E, q0.commitF.2 = E := ⟨_, rfl⟩
  have HE := Lib.hid hE
  rw [hE] at KC
  clear hE
  go_wp2_with fail
  refine KC.out.mono ?_
  rintro e w5 ⟨rfl, P5⟩
  have P5 := Lib.hid P5
  by_cases h0 : E = 0
  ·subst h0
   have KX := Lib.hid (KCX.out _ _ _ _ _ _ _ P5.out (by omega))
   rw [HE.out] at KX
   go_wp2_with fail
   refine KX.out.mono ?_
   rintro e w6 ⟨rfl, P6⟩
   obtain ⟨q1, hq1⟩ : ∃ q1, q0.commitF.1 = q1 := ⟨_, rfl⟩
   rw [hq1] at P6
   obtain ⟨fv, nv, ov, R⟩ := P6.x
   have G6 := Lib.hid (P6.guardO R)
   obtain ⟨AO, co, rfl⟩ := slc_val R.hs.ho
   obtain ⟨O, hO⟩ : ∃ O, q1.a.old = O := ⟨_, rfl⟩
   have SO := Lib.hid (show SlAt w6 (.slice AO (oldS O).length co) (oldS O) from by rw [← hO]; exact R.hs.ho)
   have p0 := R.p0
   have p2 : w6.cell? ⟨rs, 2, none⟩ = some (.slice AO (oldS O).length co) := by rw [← hO]; exact R.hs.f2
   have HLO := Lib.hid (show O.length ≤ 512 from by rw [← hO]; exact R.hs.lo)
   rw [oldS_length] at p2
   have hlo : (oldS O).length = O.length := oldS_length O
   have G6 := Lib.hid (show PXG (ownB (.slice AO O.length co)) w6 w w6 pq xq rs 162 q1 q1 (K0 + 40 + 40) from by rw [← hO, ← oldS_length]; exact G6.out)
   have SO := Lib.hid (show SlAt w6 (.slice AO O.length co) (oldS O) from by rw [← hlo]; exact SO.out)
   have HO1 := Lib.hid hO
   clear R P6 hO hq1 hlo
   go_upto_region 12 with (fail)
   iterate 7 (first | go_values | go_skip | go_guarded | go_step | go_upon | go_back)
   clear p0 p2
   go_cut [] from 72 to 101 (fun wx => ∃ (q : QS) (K : Nat), K ≤ 2481 ∧ Hid (PXG (ownB (.slice AO O.length co)) w6 w wx pq xq rs 162 q q K) ∧ Hid (q.a.old = O))
   case first =>
    go_wp2_with fail
    go_loopw [9] (fun iv wx => ∃ (i : Nat) (q : QS) (K : Nat), i ≤ 30 ∧ iv = .int .i64 i ∧ Hid (K + 40 * (30 - i) ≤ 2481) ∧ Hid (PXG (ownB (.slice AO O.length co)) w6 w wx pq xq rs 162 q q K) ∧ Hid (q.a.old = O)) (fun iv _ => 30 - (intOf iv).toNat)
    case atStart => exact ⟨0, q1, K0 + 40 + 40, Nat.zero_le _, rfl, Lib.hid (by omega), G6, HO1⟩
    case round =>
     obtain ⟨i, q, K, hi, rfl, HKK, HP, HOL⟩ := hrel
     by_cases h1 : i < m2
     ·have h1I : (i : Int) < (m2 : Int) := by omega
      by_cases h2 : i < 30
      ·have h2I : (i : Int) < 30 := by omega
       obtain ⟨ad, rfl, hSa⟩ := HA2.out wr HP.out.b i h1
       obtain ⟨c0, c1, c2⟩ := hSa
       have HC := Lib.hid (show ∀ W, Below w.heap.size w W → SvAt W (ad.add (i * 3)) (F2 i) from fun W hb => by
        obtain ⟨ad', e, h⟩ := HA2.out W hb i h1
        injection e with e
        rw [e]; exact h)
       generalize F2 i = sa at c0 c1 c2 HC
       obtain ⟨kd, l, s⟩ := sa
       dsimp only at c0 c1 c2
       have KS2 := Lib.hid (fun (W : World) => KS.out kd l s W _ rfl)
       have ei : IntKind.i64.wrap ((i : Int) + 1) = ((i + 1 : Nat) : Int) := IntWalk.i64_in _ (by omega)
       obtain ⟨bb, hbb⟩ : ∃ bb, decide (s.size < 500) = bb := ⟨_, rfl⟩
       rw [hbb] at KS2
       have HBB := Lib.hid hbb
       clear hbb
       go_wp2_with fail
       refine (KS2.out _).mono ?_
       rintro e w3 ⟨rfl, hb3⟩
       have P3 := Lib.hid (HP.out.below hb3)
       obtain ⟨d0, d1, d2⟩ := HC.out w3 P3.out.b
       dsimp only at d0 d1 d2
       clear hb3 c0 c1 c2
       have HK2 := Lib.hid (show K + 40 * (30 - (i + 1)) ≤ 2481 from by have := HKK.out; omega)
       have HK3 := Lib.hid (show K + 40 + 40 * (30 - (i + 1)) ≤ 2481 from by have := HKK.out; omega)
       cases bb
       ·go_wp2_with fail
        go_roundw
        case rel => exact ⟨i + 1, q, K, by omega, by go_num, HK2, P3, HOL⟩
        case measure => simp [intOf]; omega
       ·by_cases hx : kd = 13
        ·have hxq : (kd == 13) = true := by simpa using hx
         clear hx
         go_wp2_with fail
         go_roundw
         case rel => exact ⟨i + 1, q, K, by omega, by go_num, HK2, P3, HOL⟩
         case measure => simp [intOf]; omega
        ·have hxq : (kd == 13) = false := by rw [beq_eq_false_iff_ne]; exact hx
         have hsz : s.size ≤ 1000000 := by have := of_decide_eq_true HBB.out; omega
         have KD := Lib.hid (KDG.out _ _ _ _ _ _ _ _ _ P3.out (by have := HKK.out; omega) kd l s hsz)
         have HOL2 := Lib.hid (show (q.stepF kd l s).a.old = O from (step_old q kd l s hx).trans HOL.out)
         clear hx hsz
         go_wp2_with fail
         refine KD.out.mono ?_
         rintro e w4 ⟨⟨β, rfl⟩, P4⟩
         have P4 := Lib.hid P4
         clear d0 d1 d2
         go_wp2_with fail
         go_roundw
         case rel => exact ⟨i + 1, _, K + 40, by omega, by go_num, HK3, P4, HOL2⟩
         case measure => simp [intOf]; omega
      ·have h2I : ¬ (i : Int) < 30 := by omega
       go_wp2_with fail
       go_meet
       exact ⟨q, K, by have := HKK.out; omega, HP, HOL⟩
     ·have h1I : ¬ (i : Int) < (m2 : Int) := by omega
      go_wp2_with fail
      go_meet
      exact ⟨q, K, by have := HKK.out; omega, HP, HOL⟩
   case rest =>
    obtain ⟨q2, K2, hK2, HP2, HO2⟩ := hcut
    have KA2 := Lib.hid (KAB.out _ _ _ _ _ _ _ _ _ HP2.out)
    have HB := Lib.hid (show Ab q2.abortF O from by rw [← HO2.out]; exact Ab.start q2 HP2.out.hp.l1)
    go_wp2_with fail
    refine KA2.out.mono ?_
    rintro e w7 ⟨rfl, P7⟩
    have P7 := Lib.hid (show PXG (ownB (.slice AO O.length co)) w6 w w7 pq xq rs 162 q2.abortF q2 (K2 + 0) from P7)
    go_wp2_with fail
    go_loopw [10] (fun kv wx => ∃ (k : Nat) (q : QS), k ≤ 10 ∧ kv = .int .i64 k ∧ Hid (PXG (ownB (.slice AO O.length co)) w6 w wx pq xq rs 162 q q2 (K2 + k)) ∧ Hid (Ab q O)) (fun kv _ => 10 - (intOf kv).toNat)
    case atStart => exact ⟨0, _, Nat.zero_le _, rfl, P7, HB⟩
    case round =>
     obtain ⟨k, q, hk, rfl, HP, HQ⟩ := hrel
     by_cases h3 : k < 10
     ·have h3I : (k : Int) < 10 := by omega
      have ek : IntKind.i64.wrap ((k : Int) + 1) = ((k + 1 : Nat) : Int) := IntWalk.i64_in _ (by omega)
      have KG := Lib.hid (KGT.out _ _ _ _ _ _ _ _ _ HP.out (by omega) (k : Nat))
      have hgot := HQ.out.got HP.out.hp k
      have HQ2 := Lib.hid (HQ.out.get HP.out.hp (k : Nat))
      cases ho : (O[k]?).getD none with
      | none =>
       rw [ho] at hgot
       rw [show (q.getF (k : Nat)).2 = (⟨#[]⟩, 3) from hgot] at KG
       dsimp only at KG
       by_cases hl : k < O.length
       ·have hlI : (k : Int) < (O.length : Int) := by omega
        have hoo : (oldS O)[k]? = some none := by
         unfold oldS
         rw [List.getElem?_map, List.getElem?_eq_getElem hl]
         rw [List.getElem?_eq_getElem hl] at ho
         have ho : O[k] = none := ho
         rw [ho]; rfl
        have HOO := Lib.hid hoo
        clear hoo ho hgot
        go_wp2_with fail
        refine KG.out.mono ?_
        rintro e w8 ⟨rfl, P8⟩
        have S8 := slc_same SO.out P8.un
        obtain ⟨g, cp, ev, c0, c1, c2⟩ := SlAt.get (v := .slice AO O.length co) (l := oldS O) (by unfold SlAt; rw [oldS_length]; have := S8; unfold SlAt at this; rwa [oldS_length] at this) k none HOO.out
        injection ev with ev1 ev2 ev3
        subst ev1
        change w8.cell? ⟨g, k * 3, none⟩ = some (.bool false) at c0
        have P8 := Lib.hid P8
        clear ev2 ev3 c1 c2 S8
        go_wp2_with fail
        go_roundw
        case rel => exact ⟨k + 1, _, by omega, by go_num, P8, HQ2⟩
        case measure => simp [intOf]; omega
       ·have hlI : ¬ (k : Int) < (O.length : Int) := by omega
        clear ho hgot
        go_wp2_with fail
        refine KG.out.mono ?_
        rintro e w8 ⟨rfl, P8⟩
        have P8 := Lib.hid P8
        go_wp2_with fail
        go_roundw
        case rel => exact ⟨k + 1, _, by omega, by go_num, P8, HQ2⟩
        case measure => simp [intOf]; omega
      | some b =>
       rw [ho] at hgot
       rw [show (q.getF (k : Nat)).2 = (⟨b.toArray⟩, 0) from hgot] at KG
       dsimp only at KG
       have hl : k < O.length := by
        by_cases hl : k < O.length
        ·exact hl
        ·rw [List.getElem?_eq_none (by omega)] at ho; cases ho
       have hlI : (k : Int) < (O.length : Int) := by omega
       have hoo : (oldS O)[k]? = some (some (false, b)) := by
        unfold oldS
        rw [List.getElem?_map, List.getElem?_eq_getElem hl]
        rw [List.getElem?_eq_getElem hl] at ho
        have ho : O[k] = some b := ho
        rw [ho]; rfl
       have HOO := Lib.hid hoo
       clear hoo ho hgot
       obtain ⟨BB, hBB⟩ : ∃ BB, (⟨b.toArray⟩ : ByteArray) = BB := ⟨_, rfl⟩
       rw [hBB] at KG
       have HBE := Lib.hid hBB
       clear hBB
       go_wp2_with fail
       refine KG.out.mono ?_
       rintro e w8 ⟨rfl, P8⟩
       have S8 := slc_same SO.out P8.un
       obtain ⟨g, cp, ev, c0, c1, c2⟩ := SlAt.get (v := .slice AO O.length co) (l := oldS O) (by unfold SlAt; rw [oldS_length]; have := S8; unfold SlAt at this; rwa [oldS_length] at this) k (some (false, b)) HOO.out
       injection ev with ev1 ev2 ev3
       subst ev1
       change w8.cell? ⟨g, k * 3, none⟩ = some (.bool true) at c0
       change w8.cell? ⟨g, k * 3 + 2, none⟩ = some (.string ⟨b.toArray⟩) at c2
       rw [HBE.out] at c2
       have P8 := Lib.hid P8
       clear ev2 ev3 c1 S8
       go_wp2_with fail
       go_roundw
       case rel => exact ⟨k + 1, _, by omega, by go_num, P8, HQ2⟩
       case measure => simp [intOf]; omega
     ·obtain rfl : k = 10 := by omega
      have KC2 := Lib.hid (KCT.out _ _ _ _ _ _ _ HP.out.px)
      rw [heldN_zero HQ.out.N] at KC2
      go_wp2_with fail
      refine KC2.out.mono ?_
      rintro e w8 ⟨rfl, P8⟩
      have HB8 := Lib.hid P8.b
      go_wp2_with fail
      go_ret
      exact ⟨by first | rfl | simp, HB8.out⟩
  ·have hq : (E == 0) = false := by rw [beq_eq_false_iff_ne]; exact h0
   have hq2 : (E != 0) = true := by rw [bne_iff_ne]; exact h0
   go_wp2_with fail
   go_ret
   exact ⟨by first | rfl | simp, P5.out.b⟩
end Go.Proofs.YtbelcgjbhpjnpaaGreat.Sh
