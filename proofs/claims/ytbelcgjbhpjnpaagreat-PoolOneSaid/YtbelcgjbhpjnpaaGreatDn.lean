/- pool's laws: One. -/
import Derived.Test.YtbelcgjbhpjnpaaGreatDz
import Derived.Test.YtbelcgjbhpjnpaaGreatDs2
import Derived.Test.YtbelcgjbhpjnpaaGreatPv
set_option linter.all false
set_option linter.unusedVariables false
set_option linter.unusedSimpArgs false
namespace Go.Proofs.YtbelcgjbhpjnpaaGreat.Sh
open Go.RowKit Pk Dk Pg
attribute [local go_sem ↓] Go.wp_at_zero Go.wp_at_succ
theorem One.step {q : QS} {n K k : Nat} {last : ByteArray} (h : One q k last) (H : Hq q n K) (kd l : Int) (s : ByteArray) (hk : kd = 5 ∨ kd = 6 ∨ kd = 7 ∨ kd = 12 ∨ kd = 13) : One (q.stepF kd l s) k last := by
 unfold QS.stepF
 rw [if_neg (by omega), if_neg (by omega), if_neg (by omega), if_neg (by omega)]
 split
 ·exact h.get H l
 ·rw [if_neg (by omega)]
  split
  ·exact h.evict l
  ·rw [if_pos (by omega)]
   exact h.commit H
theorem six_step (fr i : Nat) : (six fr i).stepF 0 0 ⟨#[]⟩ = six fr (i + 1) := by
 unfold QS.stepF
 rw [if_pos (.inl rfl)]
 rfl
set_option maxRecDepth 100000 in
set_option maxHeartbeats 8000000 in
theorem poolOne_any (N M : Nat) (hN : N < 256) (hM : M < 256) {w : World} (A : Option Addr) (m cc : Nat) (F : Nat → Sv) (hm : m ≤ 9223372036854775807) (hA : SvActs w A m F) :
  Calls Tryz.prog 8 #[.int .u8 (N : Nat), .slice A m cc, .int .u8 (M : Nat)] w fun e w' => e = .returned (.bool true) ∧ Below w.heap.size w w' := by
 obtain ⟨fr, hfr⟩ : ∃ fr : Nat, fr = N % 4 + 1 := ⟨_, rfl⟩
 obtain ⟨r, hr⟩ : ∃ r : Nat, N % 4 = r := ⟨_, rfl⟩
 obtain ⟨k, hk⟩ : ∃ k : Nat, M % 6 = k := ⟨_, rfl⟩
 have e0 : (N : Int) % 4 = (r : Int) := by omega
 have e1 : IntKind.u8.wrap (r : Int) = (r : Int) := IntWalk.u8_in _ (by omega)
 have e2 : IntKind.i64.wrap (r : Int) = (r : Int) := IntWalk.i64_in _ (by omega)
 have e3 : IntKind.i64.wrap ((r : Int) + 1) = (fr : Int) := by rw [show (r : Int) + 1 = (fr : Int) by omega]; exact IntWalk.i64_in _ (by omega)
 have e4 : (M : Int) % 6 = (k : Int) := by omega
 have e5 : IntKind.u8.wrap (k : Int) = (k : Int) := IntWalk.u8_in _ (by omega)
 have e6 : IntKind.i64.wrap (k : Int) = (k : Int) := IntWalk.i64_in _ (by omega)
 have hk6 : k < 6 := by omega
 have KB := Lib.hid (begun15_any w fr 40 (by omega) (by omega) (by omega) (by omega))
 rw [show 2 + 4 * 40 = 162 from rfl] at KB
 have KA := Lib.hid awake15
 have HA := Lib.hid (fun (W : World) (hb : Below w.heap.size w W) => hA.below hb)
 have KS := Lib.hid short15_any
 have KU := Lib.hid (fun (b : ByteArray) (hb : b.size ≤ 1000000) (W : World) => rfull_any b hb W)
 have H0 := Lib.hid (One.start fr k hk6)
 have KDO := Lib.hid (fun (W : World) (pq xq rs K : Nat) (q qx : QS) (S : PX w W pq xq rs 162 q qx K) (hK : K ≤ 800000) (kd l : Int) (s : ByteArray) (hs : s.size ≤ 1000000) => S.do_ hK kd l s hs)
 have KFE := Lib.hid (fun (W : World) => rfull_any ⟨#[]⟩ (by decide) W)
 rw [show (⟨(padL (⟨#[]⟩ : ByteArray).data.toList 232).toArray⟩ : ByteArray) = ⟨(padL [] 232).toArray⟩ from rfl] at KFE
 generalize (⟨(padL [] 232).toArray⟩ : ByteArray) = L0 at *
 clear hA hfr hr hk
 unfold pp rp at *
 go_enter Tryz.func8, Tryz.ntmps8
 go_wp2_with fail
 refine KB.out.mono ?_
 rintro e w1 ⟨pq, xq, rs, rfl, P1⟩
 have P1 := Lib.hid P1
 go_wp2_with fail
 refine (KA.out w1).mono ?_
 rintro e w2 ⟨rfl, hb2⟩
 have P2 := Lib.hid (show PX w w2 pq xq rs 162 (six fr 0) (six fr 0) (1 + 40 * 0) from P1.out.below hb2)
 clear hb2
 go_wp2_with fail
 go_loopw [10] (fun iv wr => ∃ i : Nat, i ≤ 6 ∧ iv = .int .i64 i ∧ Hid (PX w wr pq xq rs 162 (six fr i) (six fr i) (1 + 40 * i))) (fun iv _ => 6 - (intOf iv).toNat)
 case atStart => exact ⟨0, Nat.zero_le _, rfl, P2⟩
 case round =>
  obtain ⟨i, hi, rfl, HP⟩ := hrel
  by_cases h1 : i < 6
  ·have h1I : (i : Int) < 6 := by omega
   have ei : IntKind.i64.wrap ((i : Int) + 1) = ((i + 1 : Nat) : Int) := IntWalk.i64_in _ (by omega)
   have KD := Lib.hid (KDO.out _ _ _ _ _ _ _ HP.out (by omega) 0 0 ⟨#[]⟩ (by decide))
   rw [six_step] at KD
   go_wp2_with fail
   refine KD.out.mono ?_
   rintro e w3 ⟨⟨β, rfl⟩, P3⟩
   have P3 := Lib.hid (P3.more (K' := 1 + 40 * (i + 1)) (by omega))
   go_wp2_with fail
   go_roundw
   case rel => exact ⟨i + 1, by omega, by go_num, P3⟩
   case measure => simp [intOf]; omega
  ·obtain rfl : i = 6 := by omega
   go_wp2_with fail
   refine (KFE.out _).mono ?_
   rintro e w3 ⟨rfl, hb3⟩
   have P3 := Lib.hid (show PX w w3 pq xq rs 162 (six fr 6) (six fr 6) (241 + 60 * 0) from HP.out.below hb3)
   clear hb3
   go_wp2_with fail
   go_loopw [11, 12] (fun lv iv wr => ∃ (i : Nat) (q qx : QS) (last : ByteArray), i ≤ 50 ∧ iv = .int .i64 i ∧ lv = .string last ∧ Hid (PX w wr pq xq rs 162 q qx (241 + 60 * i)) ∧ Hid (One q k last)) (fun _ iv _ => 50 - (intOf iv).toNat)
   case atStart => exact ⟨0, _, _, _, Nat.zero_le _, rfl, rfl, P3, H0⟩
   case round =>
    obtain ⟨i, q, qx, last, hi, rfl, rfl, HP, HO⟩ := hrel
    by_cases h1 : i < m
    ·have h1I : (i : Int) < (m : Int) := by omega
     by_cases h2 : i < 50
     ·have h2I : (i : Int) < 50 := by omega
      obtain ⟨ad, rfl, hSa⟩ := HA.out wr HP.out.b i h1
      obtain ⟨c0, c1, c2⟩ := hSa
      generalize F i = sa at c0 c1 c2
      obtain ⟨kd, l, s⟩ := sa
      dsimp only at c0 c1 c2
      have KS2 := Lib.hid (fun (W : World) => KS.out kd l s W _ rfl)
      have ei : IntKind.i64.wrap ((i : Int) + 1) = ((i + 1 : Nat) : Int) := IntWalk.i64_in _ (by omega)
      obtain ⟨bb, hbb⟩ : ∃ bb, decide (s.size < 500) = bb := ⟨_, rfl⟩
      rw [hbb] at KS2
      have HBB := Lib.hid hbb
      clear hbb
      obtain ⟨ab, hab⟩ : ∃ ab, wr.heap.size = ab := ⟨_, rfl⟩
      have HAB := Lib.hid hab
      have A3 := Lib.hid (show ActAt15 (wr.alloc (.cells #[.int .i64 kd, .int .i64 l, .string s] 80)) ab kd l s from by rw [← hab]; exact Blk.new wr 80 #[.int .i64 kd, .int .i64 l, .string s])
      have P3 := Lib.hid (HP.out.below (belowAlloc (Below.refl wr.heap.size wr) (.cells #[.int .i64 kd, .int .i64 l, .string s] 80)))
      have k0 := A3.out.cell_some (i := 0) rfl
      have k1 := A3.out.cell_some (i := 1) rfl
      have k2 := A3.out.cell_some (i := 2) rfl
      rw [← hab] at k0 k1 k2
      clear hab
      go_wp2_with fail
      refine (KS2.out _).mono ?_
      rintro e w4 ⟨rfl, hb4⟩
      have A4 := Lib.hid (show ActAt15 w4 ab kd l s from Blk.below A3.out hb4 A3.out.lt)
      have P4 := Lib.hid (P3.out.below hb4)
      rw [HAB.out]
      clear c0 c1 c2 k0 k1 k2 hb4 A3 P3
      have d0 := A4.out.cell_some (i := 0) rfl
      have d1 := A4.out.cell_some (i := 1) rfl
      have d2 := A4.out.cell_some (i := 2) rfl
      cases bb
      ·skip
       have KG := Lib.hid (P4.out.get (by omega) (k : Nat))
       rw [One.got HO.out P4.out.hp] at KG
       dsimp only at KG
       have OG := Lib.hid ((HO.out).get P4.out.hp (k : Nat))
       unfold pp at KG
       go_wp2_with fail
       refine KG.out.mono ?_
       rintro e w9 ⟨rfl, P9⟩
       have P9 := Lib.hid (P9.more (K' := 241 + 60 * (i + 1)) (by omega))
       go_wp2_with fail
       go_roundw
       case rel => exact ⟨i + 1, _, _, _, by omega, by go_num, rfl, P9, OG⟩
       case measure => simp [intOf]; omega
      ·have hsz : s.size ≤ 1000000 := by have := of_decide_eq_true HBB.out; omega
       have HSZ := Lib.hid hsz
       clear hsz
       by_cases hp : 8 ≤ kd ∧ kd ≤ 10
       ·obtain ⟨hp1, hp2⟩ := hp
        have hq := P4.out.hp
        have KPT := Lib.hid (P4.out.run A4.out (R := .int .i64 (q.putF l s).2) (f := 45) (args := #[pp pq, .int .i64 l, .string s]) (K' := 241 + 60 * i + 1) (by omega) (hq.put_ l s) (fun y e Z => by rw [← e]; exact (zput_any Z hq (by omega) l s).mono fun e w' h => ⟨h.1, .self h.2.1 h.2.2⟩))
        have OP := Lib.hid (HO.out.put hq l s)
        have KU2 := Lib.hid (fun W => KU.out s HSZ.out W)
        rw [show (⟨(padL s.data.toList 232).toArray⟩ : ByteArray) = fullB s from rfl] at KU2
        clear hq
        generalize (q.putF l s).1 = q1 at *
        generalize (q.putF l s).2 = E at *
        generalize fullB s = FB at *
        unfold pp at KPT
        go_wp2_with fail
        refine KPT.out.mono ?_
        rintro e w5 ⟨rfl, P5, A5⟩
        have P5 := Lib.hid P5
        have A5 := Lib.hid A5
        clear d0 d1 d2
        have d1 := A5.out.cell_some (i := 1) rfl
        have d2 := A5.out.cell_some (i := 2) rfl
        by_cases hE : E = 0
        ·subst hE
         by_cases hl : l = (k : Int)
         ·rw [if_pos ⟨rfl, hl⟩] at OP
          subst hl
          go_wp2_with fail
          refine (KU2.out _).mono ?_
          rintro e w6 ⟨rfl, hb6⟩
          have P6 := Lib.hid (P5.out.below hb6)
          clear hb6 d1 d2
          have KG := Lib.hid (P6.out.get (by omega) (k : Nat))
          rw [One.got OP.out P6.out.hp] at KG
          dsimp only at KG
          have OG := Lib.hid ((OP.out).get P6.out.hp (k : Nat))
          unfold pp at KG
          go_wp2_with fail
          refine KG.out.mono ?_
          rintro e w9 ⟨rfl, P9⟩
          have P9 := Lib.hid (P9.more (K' := 241 + 60 * (i + 1)) (by omega))
          go_wp2_with fail
          go_roundw
          case rel => exact ⟨i + 1, _, _, _, by omega, by go_num, rfl, P9, OG⟩
          case measure => simp [intOf]; omega
         ·rw [if_neg (fun h => hl h.2)] at OP
          have hql : (l == (k : Int)) = false := by rw [beq_eq_false_iff_ne]; exact hl
          have KG := Lib.hid (P5.out.get (by omega) (k : Nat))
          rw [One.got OP.out P5.out.hp] at KG
          dsimp only at KG
          have OG := Lib.hid ((OP.out).get P5.out.hp (k : Nat))
          unfold pp at KG
          go_wp2_with fail
          refine KG.out.mono ?_
          rintro e w9 ⟨rfl, P9⟩
          have P9 := Lib.hid (P9.more (K' := 241 + 60 * (i + 1)) (by omega))
          go_wp2_with fail
          go_roundw
          case rel => exact ⟨i + 1, _, _, _, by omega, by go_num, rfl, P9, OG⟩
          case measure => simp [intOf]; omega
        ·rw [if_neg (fun h => hE h.1)] at OP
         have hqe : (E == 0) = false := by rw [beq_eq_false_iff_ne]; exact hE
         have KG := Lib.hid (P5.out.get (by omega) (k : Nat))
         rw [One.got OP.out P5.out.hp] at KG
         dsimp only at KG
         have OG := Lib.hid ((OP.out).get P5.out.hp (k : Nat))
         unfold pp at KG
         go_wp2_with fail
         refine KG.out.mono ?_
         rintro e w9 ⟨rfl, P9⟩
         have P9 := Lib.hid (P9.more (K' := 241 + 60 * (i + 1)) (by omega))
         go_wp2_with fail
         go_roundw
         case rel => exact ⟨i + 1, _, _, _, by omega, by go_num, rfl, P9, OG⟩
         case measure => simp [intOf]; omega
       by_cases h5 : 5 ≤ kd ∧ kd ≤ 7
       ·have h8 : ¬ 8 ≤ kd := by omega
        obtain ⟨h51, h52⟩ := h5
        have hkk : kd = 5 ∨ kd = 6 ∨ kd = 7 ∨ kd = 12 ∨ kd = 13 := by omega
        have HKK := Lib.hid hkk
        clear hkk
        have KD := Lib.hid (KDO.out _ _ _ _ _ _ _ P4.out (by omega) kd l s HSZ.out)
        have OD := Lib.hid (HO.out.step P4.out.hp kd l s HKK.out)
        generalize q.stepF kd l s = q1 at *
        generalize qx.stepF kd l s = qx1 at *
        go_wp2_with fail
        refine KD.out.mono ?_
        rintro e w5 ⟨⟨β, rfl⟩, P5⟩
        have P5 := Lib.hid P5
        clear d0 d1 d2
        have KG := Lib.hid (P5.out.get (by omega) (k : Nat))
        rw [One.got OD.out P5.out.hp] at KG
        dsimp only at KG
        have OG := Lib.hid ((OD.out).get P5.out.hp (k : Nat))
        unfold pp at KG
        go_wp2_with fail
        refine KG.out.mono ?_
        rintro e w9 ⟨rfl, P9⟩
        have P9 := Lib.hid (P9.more (K' := 241 + 60 * (i + 1)) (by omega))
        go_wp2_with fail
        go_roundw
        case rel => exact ⟨i + 1, _, _, _, by omega, by go_num, rfl, P9, OG⟩
        case measure => simp [intOf]; omega
       by_cases h12 : kd = 12
       ·subst h12
        have KD := Lib.hid (KDO.out _ _ _ _ _ _ _ P4.out (by omega) 12 l s HSZ.out)
        have OD := Lib.hid (HO.out.step P4.out.hp 12 l s (by omega))
        generalize q.stepF 12 l s = q1 at *
        generalize qx.stepF 12 l s = qx1 at *
        go_wp2_with fail
        refine KD.out.mono ?_
        rintro e w5 ⟨⟨β, rfl⟩, P5⟩
        have P5 := Lib.hid P5
        clear d0 d1 d2
        have KG := Lib.hid (P5.out.get (by omega) (k : Nat))
        rw [One.got OD.out P5.out.hp] at KG
        dsimp only at KG
        have OG := Lib.hid ((OD.out).get P5.out.hp (k : Nat))
        unfold pp at KG
        go_wp2_with fail
        refine KG.out.mono ?_
        rintro e w9 ⟨rfl, P9⟩
        have P9 := Lib.hid (P9.more (K' := 241 + 60 * (i + 1)) (by omega))
        go_wp2_with fail
        go_roundw
        case rel => exact ⟨i + 1, _, _, _, by omega, by go_num, rfl, P9, OG⟩
        case measure => simp [intOf]; omega
       by_cases h13 : kd = 13
       ·subst h13
        have KD := Lib.hid (KDO.out _ _ _ _ _ _ _ P4.out (by omega) 13 l s HSZ.out)
        have OD := Lib.hid (HO.out.step P4.out.hp 13 l s (by omega))
        generalize q.stepF 13 l s = q1 at *
        generalize qx.stepF 13 l s = qx1 at *
        go_wp2_with fail
        refine KD.out.mono ?_
        rintro e w5 ⟨⟨β, rfl⟩, P5⟩
        have P5 := Lib.hid P5
        clear d0 d1 d2
        have KG := Lib.hid (P5.out.get (by omega) (k : Nat))
        rw [One.got OD.out P5.out.hp] at KG
        dsimp only at KG
        have OG := Lib.hid ((OD.out).get P5.out.hp (k : Nat))
        unfold pp at KG
        go_wp2_with fail
        refine KG.out.mono ?_
        rintro e w9 ⟨rfl, P9⟩
        have P9 := Lib.hid (P9.more (K' := 241 + 60 * (i + 1)) (by omega))
        go_wp2_with fail
        go_roundw
        case rel => exact ⟨i + 1, _, _, _, by omega, by go_num, rfl, P9, OG⟩
        case measure => simp [intOf]; omega
       have q12 : (kd == 12) = false := by rw [beq_eq_false_iff_ne]; exact h12
       have q13 : (kd == 13) = false := by rw [beq_eq_false_iff_ne]; exact h13
       by_cases h8 : 8 ≤ kd
       ·have h10 : ¬ kd ≤ 10 := by omega
        have h51 : 5 ≤ kd := by omega
        have h7 : ¬ kd ≤ 7 := by omega
        clear hp h5 h12 h13
        have KG := Lib.hid (P4.out.get (by omega) (k : Nat))
        rw [One.got HO.out P4.out.hp] at KG
        dsimp only at KG
        have OG := Lib.hid ((HO.out).get P4.out.hp (k : Nat))
        unfold pp at KG
        go_wp2_with fail
        refine KG.out.mono ?_
        rintro e w9 ⟨rfl, P9⟩
        have P9 := Lib.hid (P9.more (K' := 241 + 60 * (i + 1)) (by omega))
        go_wp2_with fail
        go_roundw
        case rel => exact ⟨i + 1, _, _, _, by omega, by go_num, rfl, P9, OG⟩
        case measure => simp [intOf]; omega
       ·have h51 : ¬ 5 ≤ kd := by omega
        clear hp h5 h12 h13
        have KG := Lib.hid (P4.out.get (by omega) (k : Nat))
        rw [One.got HO.out P4.out.hp] at KG
        dsimp only at KG
        have OG := Lib.hid ((HO.out).get P4.out.hp (k : Nat))
        unfold pp at KG
        go_wp2_with fail
        refine KG.out.mono ?_
        rintro e w9 ⟨rfl, P9⟩
        have P9 := Lib.hid (P9.more (K' := 241 + 60 * (i + 1)) (by omega))
        go_wp2_with fail
        go_roundw
        case rel => exact ⟨i + 1, _, _, _, by omega, by go_num, rfl, P9, OG⟩
        case measure => simp [intOf]; omega
     ·have h2I : ¬ (i : Int) < 50 := by omega
      go_wp2_with fail
      go_ret
      exact ⟨by first | rfl | simp, HP.out.b⟩
    ·have h1I : ¬ (i : Int) < (m : Int) := by omega
     go_wp2_with fail
     go_ret
     exact ⟨by first | rfl | simp, HP.out.b⟩
end Go.Proofs.YtbelcgjbhpjnpaaGreat.Sh
