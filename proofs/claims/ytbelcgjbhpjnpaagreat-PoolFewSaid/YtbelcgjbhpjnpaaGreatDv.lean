/- pool's laws: Few. -/
import Derived.Test.YtbelcgjbhpjnpaaGreatDu
import Derived.Test.YtbelcgjbhpjnpaaGreatDw
import Derived.Test.YtbelcgjbhpjnpaaGreatDs
import Derived.Test.YtbelcgjbhpjnpaaGreatPv
set_option linter.all false
set_option linter.unusedVariables false
set_option linter.unusedSimpArgs false
namespace Go.Proofs.YtbelcgjbhpjnpaaGreat.Sh
open Go.RowKit Pk Dk Pg
attribute [local go_sem ↓] Go.wp_at_zero Go.wp_at_succ exec_app
theorem ints_get {w : World} {A : Option Addr} {n c : Nat} {l : List Int} (S : Slc w 3 1 (.slice A n c) n (nvs' l)) : ∀ (k : Nat) (x : Int), l[k]? = some x → ∃ g, A = some ⟨g, 0, none⟩ ∧ w.cell? ⟨g, k, none⟩ = some (.int .i64 x) := by
 intro k x hx
 have hl := S.1
 rw [nvs'_length] at hl
 have hk := (List.getElem?_eq_some_iff.1 hx).1
 rcases S.2 with ⟨_, h2⟩ | ⟨g, cap, rest, h1, B, _⟩
 ·omega
 ·injection h1 with h1 h2 h3
  exact ⟨g, h1, B.cell_some (by rw [List.getElem?_toArray, List.getElem?_append_left (by simpa using hk)]; unfold nvs'; rw [List.getElem?_map, hx]; rfl)⟩
/-- the pages that are held -/
def hL (l : List Fr) : List Int := (l.filter fun f => decide (0 < f.held)).map Fr.page
theorem hL_succ (l : List Fr) (i : Nat) (f : Fr) (hf : l[i]? = some f) : hL (l.take (i + 1)) = if 0 < f.held then hL (l.take i) ++ [f.page] else hL (l.take i) := by
 obtain ⟨hi, rfl⟩ := List.getElem?_eq_some_iff.1 hf
 unfold hL
 rw [List.take_succ_eq_append_getElem hi, List.filter_append, List.map_append]
 by_cases h : 0 < l[i].held
 ·rw [if_pos h]; simp [h]
 ·rw [if_neg h]; simp [h]
theorem hL_len (l : List Fr) : (hL l).length ≤ l.length := by
 unfold hL
 rw [List.length_map]
 exact List.length_filter_le _ _
theorem hL_mem {l : List Fr} {x : Int} (h : x ∈ hL l) : ∃ f ∈ l, 0 < f.held ∧ f.page = x := by
 obtain ⟨f, h1, h2⟩ := List.mem_map.1 h
 obtain ⟨h3, h4⟩ := List.mem_filter.1 h1
 exact ⟨f, h3, by simpa using h4, h2⟩
theorem few_mem {q : QS} {n K : Nat} (H : Hq q n K) (hp : Hp q.l) (kd l : Int) (s : ByteArray) (h : kd ≠ 14) {x : Int} (hx : x ∈ hL q.l) : x ∈ msort (pgL (q.stepF kd l s).l) := by
 obtain ⟨f, hf, h0, rfl⟩ := hL_mem hx
 obtain ⟨f', h1, h2⟩ := (step_keeps H hp kd l s).1 h f hf h0
 have h3 := hp f hf h0
 have : f.page ∈ pgL (q.stepF kd l s).l := by
  unfold pgL
  refine List.mem_filter.2 ⟨?_, by simpa using h3⟩
  rw [← h2]
  exact List.mem_map_of_mem h1
 unfold msort
 exact (List.mergeSort_perm _ _).mem_iff.2 this
theorem step_len {q : QS} {n K : Nat} (H : Hq q n K) (hK : K ≤ 899000) (kd l : Int) (s : ByteArray) : (q.stepF kd l s).l.length = q.l.length := by
 have hh := (hold_l H.f H.lh H.full l).2
 have hf := (hold_l H.f H.lh H.full l).1
 unfold QS.stepF
 split
 ·rfl
 ·split
  ·exact hh
  ·split
   ·exact (let_l H.f l).2.1
   ·split
    ·exact (set_l H.f l s).2.1
    ·split
     ·unfold QS.getF
      split
      ·exact hh
      ·exact ((let_l hf l).2.1).trans hh
     ·split
      ·unfold QS.dropF
       split
       ·rfl
       ·split
        ·rfl
        ·split
         ·exact List.length_set
         ·rfl
      ·split
       ·unfold QS.evictF
        split
        ·rfl
        ·split
         ·rfl
         ·split
          ·rfl
          ·have hb := (back_l (k := l.toNat) H.f (by omega)).2
           split
           ·exact hb
           ·exact List.length_set.trans hb
       ·split
        ·have hb := (H.backs q.l.length (Nat.le_refl _)).2
         unfold QS.commitF
         split
         ·rfl
         ·split
          ·exact hb
          ·exact hb
        ·split
         ·exact List.length_replicate
         ·unfold QS.putF
          split
          ·rfl
          ·split
           ·exact hh
           ·have h2 := set_l hf l s
            exact ((let_l h2.1 l).2.1).trans (h2.2.1.trans hh)
set_option maxRecDepth 100000 in
set_option maxHeartbeats 8000000 in
theorem poolFew_any (N : Nat) (hN : N < 256) {w : World} (A : Option Addr) (m cc : Nat) (F : Nat → Sv) (hm : m ≤ 9223372036854775807) (hA : SvActs w A m F) :
  Calls Tryz.prog 9 #[.int .u8 (N : Nat), .slice A m cc] w fun e w' => e = .returned (.bool true) ∧ Below w.heap.size w w' := by
 obtain ⟨fr, hfr⟩ : ∃ fr : Nat, fr = N % 4 + 1 := ⟨_, rfl⟩
 obtain ⟨r, hr⟩ : ∃ r : Nat, N % 4 = r := ⟨_, rfl⟩
 have e0 : (N : Int) % 4 = (r : Int) := by omega
 have e1 : IntKind.u8.wrap (r : Int) = (r : Int) := IntWalk.u8_in _ (by omega)
 have e2 : IntKind.i64.wrap (r : Int) = (r : Int) := IntWalk.i64_in _ (by omega)
 have e3 : IntKind.i64.wrap ((r : Int) + 1) = (fr : Int) := by rw [show (r : Int) + 1 = (fr : Int) by omega]; exact IntWalk.i64_in _ (by omega)
 have KB := Lib.hid (begun15_any w fr 30 (by omega) (by omega) (by omega) (by omega))
 rw [show 2 + 4 * 30 = 122 from rfl] at KB
 have KA := Lib.hid awake15
 have HA := Lib.hid (fun (W : World) (hb : Below w.heap.size w W) => hA.below hb)
 have KS := Lib.hid short15_any
 have hfr1 : 1 ≤ fr := by omega
 have hfr4 : fr ≤ 4 := by omega
 have H00 := Lib.hid (show Hp (QS.start fr 30).l ∧ (QS.start fr 30).l.length = fr from ⟨fun f hf h0 => by rw [List.eq_of_mem_replicate hf] at h0; exact absurd h0 (by decide), by show (List.replicate fr Fr.nil).length = fr; rw [List.length_replicate]⟩)
 have KDO := Lib.hid (fun (gs : List Nat) (wb W : World) (pq xq rs K : Nat) (q : QS) (S : PXG gs wb w W pq xq rs 122 q q K) (hK : K ≤ 800000) (kd l : Int) (s : ByteArray) (hs : s.size ≤ 1000000) => S.do_ hK kd l s hs)
 have KPG := Lib.hid (fun (W : World) (pq xq rs K : Nat) (q : QS) (S : PX w W pq xq rs 122 q q K) => S.pages)
 clear hA hfr hr
 unfold pp rp at *
 go_enter Tryz.func9, Tryz.ntmps9
 go_wp2_with fail
 refine KB.out.mono ?_
 rintro e w1 ⟨pq, xq, rs, rfl, P1⟩
 have P1 := Lib.hid P1
 go_wp2_with fail
 refine (KA.out w1).mono ?_
 rintro e w2 ⟨rfl, hb2⟩
 have P2 := Lib.hid (P1.out.below hb2)
 clear hb2
 go_wp2_with fail
 go_loopw [8] (fun iv wr => ∃ (i : Nat) (q : QS), i ≤ 50 ∧ iv = .int .i64 i ∧ Hid (PX w wr pq xq rs 122 q q (1 + 40 * i)) ∧ Hid (Hp q.l ∧ q.l.length = fr)) (fun iv _ => 50 - (intOf iv).toNat)
 case atStart => exact ⟨0, _, Nat.zero_le _, rfl, P2, H00⟩
 case round =>
  obtain ⟨i, q, hi, rfl, HP, HI⟩ := hrel
  by_cases h1 : i < m
  ·have h1I : (i : Int) < (m : Int) := by omega
   by_cases h2 : i < 50
   ·have h2I : (i : Int) < 50 := by omega
    obtain ⟨ad, rfl, hSa⟩ := HA.out wr HP.out.b i h1
    obtain ⟨c0, c1, c2⟩ := hSa
    have HC := Lib.hid (show ∀ W, Below w.heap.size w W → SvAt W (ad.add (i * 3)) (F i) from fun W hb => by
     obtain ⟨ad', e, h⟩ := HA.out W hb i h1
     injection e with e
     rw [e]; exact h)
    generalize F i = sa at c0 c1 c2 HC
    obtain ⟨kd, l, s⟩ := sa
    dsimp only at c0 c1 c2
    have KS2 := Lib.hid (fun (W : World) => KS.out kd l s W _ rfl)
    have ei : IntKind.i64.wrap ((i : Int) + 1) = ((i + 1 : Nat) : Int) := IntWalk.i64_in _ (by omega)
    obtain ⟨bb, hbb⟩ : ∃ bb, decide (s.size < 500) = bb := ⟨_, rfl⟩
    rw [hbb] at KS2
    have HBB := Lib.hid hbb
    clear hbb
    go_wp2_with fail
    refine (KS2.out _).mono ?_
    rintro e w3 ⟨rfl, hb3⟩
    have P3 := Lib.hid (HP.out.below hb3)
    clear hb3 c0 c1 c2
    cases bb
    ·go_wp2_with fail
     have P4 := Lib.hid (P3.out.more (show 1 + 40 * i ≤ 1 + 40 * (i + 1) by omega))
     go_roundw
     case rel => exact ⟨i + 1, q, by omega, by go_num, P4, HI⟩
     case measure => simp [intOf]; omega
    ·have hsz : s.size ≤ 1000000 := by have := of_decide_eq_true HBB.out; omega
     have HSZ := Lib.hid hsz
     clear hsz
     obtain ⟨fv, nv, ov, R⟩ := P3.out.x
     obtain ⟨gx, cx, rfl⟩ := R.fs
     have HR := Lib.hid (fun (W : World) (hb : Below w3.heap.size w3 W) => R.below hb)
     have HLQ := Lib.hid HI.out.2
     have HLT := Lib.hid (show hL (q.l.take fr) = hL q.l from by rw [← HLQ.out, List.take_length])
     have HLL := Lib.hid (show ∀ k, (hL (q.l.take k)).length ≤ 4 from fun k => by
      have h1 := hL_len (q.l.take k)
      have h2 := HLQ.out
      rw [List.length_take] at h1
      omega)
     have p1 : w3.cell? ⟨xq, 1, none⟩ = some (.slice (some ⟨gx, 0, none⟩) fr cx) := by rw [← HLQ.out]; exact R.p1
     clear R
     go_wp2_with fail
     go_loopw [9, 10] (fun hv kv wx => ∃ k : Nat, k ≤ fr ∧ kv = .int .i64 k ∧ Slc wx 3 1 hv (hL (q.l.take k)).length (nvs' (hL (q.l.take k))) ∧ Hid (Below w3.heap.size w3 wx) ∧ Hid (∀ g ∈ ownB hv, w3.heap.size ≤ g)) (fun _ kv _ => fr - (intOf kv).toNat)
     case atStart => exact ⟨0, Nat.zero_le _, rfl, Slc.nil _ _ _, Lib.hid (Below.refl _ _), Lib.hid (by simp [ownB])⟩
     case round =>
      obtain ⟨k, hk, rfl, S, O, FO⟩ := hrel
      obtain ⟨VH, vh, rfl⟩ := slc_val S
      clear p1
      have p1 : wr.cell? ⟨xq, 1, none⟩ = some (.slice (some ⟨gx, 0, none⟩) fr cx) := by rw [← HLQ.out]; exact (HR.out _ O.out).p1
      by_cases h' : k < fr
      ·have hkI : (k : Int) < (fr : Int) := by omega
       obtain ⟨f, HG⟩ : ∃ f, Hid (q.l[k]? = some f) := ⟨_, Lib.hid (List.getElem?_eq_getElem (by rw [HLQ.out]; exact h'))⟩
       obtain ⟨c0, c1, c2, c3, c4⟩ := (HR.out _ O.out).frs k f HG.out
       have ek : IntKind.i64.wrap ((k : Int) + 1) = ((k + 1 : Nat) : Int) := IntWalk.i64_in _ (by omega)
       have hm4 := HLL.out k
       have hnx := hL_succ q.l k f HG.out
       by_cases hp : 0 < f.held
       ·rw [if_pos hp] at hnx
        obtain ⟨v', w5, ea, S2, ow, frr⟩ := append_one (P := Tryz.prog) S 52 52 (.int .i64 0) 8 Tryz.underlying52 info_int2 rfl (.int .i64 f.page) rfl (by unfold maxLen; omega) (by omega)
        obtain ⟨V2, vc2, rfl⟩ := slc_val S2
        have EA := Lib.hid ea
        have SX := Lib.hid (show Slc w5 3 1 (.slice V2 ((hL (q.l.take k)).length + 1) vc2) (hL (q.l.take (k + 1))).length (nvs' (hL (q.l.take (k + 1)))) from by
         rw [hnx, nvs'_append, List.length_append]; exact S2)
        have OX := Lib.hid (O.out.trans (ow.below_of O.out.size FO.out))
        have FX := Lib.hid (show ∀ g' ∈ ownB (.slice V2 ((hL (q.l.take k)).length + 1) vc2), w3.heap.size ≤ g' from fun g' hg => (frr g' hg).elim (FO.out g') (fun h => Nat.le_trans O.out.size h))
        clear ea S2 ow frr S hnx
        generalize (hL (q.l.take k)).length = pl at *
        go_wp2_with fail
        rw [EA.out]
        go_wp2_with fail
        go_roundw
        case rel => exact ⟨k + 1, by omega, by go_num, SX.out, OX, FX⟩
        case measure => simp [intOf]; omega
       ·rw [if_neg hp] at hnx
        have SX := Lib.hid S
        have HX := Lib.hid hnx
        clear S hnx
        go_wp2_with fail
        go_roundw
        case rel => exact ⟨k + 1, by omega, by go_num, by rw [HX.out]; exact SX.out, O, FO⟩
        case measure => simp [intOf]; omega
      ·obtain rfl : fr = k := by omega
       have G4 := Lib.hid (P3.out.guard (gs := ownB (.slice VH (hL (q.l.take fr)).length vh)) O.out (fun g hg => ⟨FO.out g hg, S.lt g hg⟩))
       have hx := HLL.out fr
       obtain ⟨hl, hhl⟩ : ∃ hl, hL (q.l.take fr) = hl := ⟨_, rfl⟩
       have HHL := Lib.hid (hhl.symm.trans HLT.out)
       rw [hhl] at S G4 hx ⊢
       obtain ⟨pl, hpl⟩ : ∃ pl, hl.length = pl := ⟨_, rfl⟩
       have HPL := Lib.hid hpl
       rw [hpl] at S G4 hx ⊢
       have S4 := Lib.hid S
       obtain ⟨d0, d1, d2⟩ := HC.out wr (P3.out.below O.out).b
       dsimp only at d0 d1 d2
       have H3 := P3.out.hp
       have HMEM := Lib.hid (fun (h : kd ≠ 14) (x : Int) (hx : x ∈ hl) => few_mem H3 HI.out.1 kd l s h (by rw [← HHL.out]; exact hx))
       have HI2 := Lib.hid (show Hp (q.stepF kd l s).l ∧ (q.stepF kd l s).l.length = fr from ⟨(step_keeps H3 HI.out.1 kd l s).2, (step_len H3 (by omega) kd l s).trans HLQ.out⟩)
       have KD4 := Lib.hid (KDO.out _ _ _ _ _ _ _ _ G4.out (by omega) kd l s HSZ.out)
       obtain ⟨q2, hq2⟩ : ∃ q2, q.stepF kd l s = q2 := ⟨_, rfl⟩
       rw [hq2] at KD4 HI2 HMEM
       have HPG := Lib.hid (show (pgL q2.l).length ≤ fr from by have := pgL_len q2.l; have := HI2.out.2; omega)
       clear S hhl hpl hq2 H3 HP P3 HR
       go_wp2_with fail
       refine KD4.out.mono ?_
       rintro e w5 ⟨⟨β, rfl⟩, G5⟩
       have S5 := Lib.hid (slc_same S4.out G5.un)
       have P5 := Lib.hid G5.px
       clear d0 d1 d2 G5 G4 KD4 p1
       go_wp2_with fail
       refine (KPG.out _ _ _ _ _ _ P5.out).mono ?_
       rintro e w6 ⟨⟨AM, cm, rfl, SM⟩, P6, hb6⟩
       have P6 := Lib.hid P6
       have S6 := S5.out.below hb6
       have HGH := Lib.hid (fun (W : World) (hW : Below w6.heap.size w6 W) => ints_get (S6.below hW))
       obtain ⟨ml, hml⟩ : ∃ ml, msort (pgL q2.l) = ml := ⟨_, rfl⟩
       have hmlen : ml.length = (pgL q2.l).length := by rw [← hml, msort_len]
       obtain ⟨mn, hmn⟩ : ∃ mn, (pgL q2.l).length = mn := ⟨_, rfl⟩
       have hmfr : mn ≤ fr := by rw [← hmn]; exact HPG.out
       rw [hml] at SM HMEM
       rw [hmn] at SM hmlen ⊢
       have HGM := Lib.hid (fun (W : World) (hW : Below w6.heap.size w6 W) => ints_get (SM.below hW))
       have HML := Lib.hid hmlen
       have hmI : ¬ (fr : Int) < (mn : Int) := by omega
       clear S6 SM hb6 hml hmlen hmn S5 S4
       go_wp2_with fail
       go_loopw [12] (fun kv wx => ∃ k : Nat, k ≤ pl ∧ kv = .int .i64 k ∧ Hid (Below w6.heap.size w6 wx)) (fun kv _ => pl - (intOf kv).toNat)
       case atStart => exact ⟨0, Nat.zero_le _, rfl, Lib.hid (Below.refl _ _)⟩
       case round =>
        obtain ⟨k2, hk2, rfl, O7⟩ := hrel
        have P7 := Lib.hid ((P6.out.below O7.out).more (show 1 + 40 * i + 40 ≤ 1 + 40 * (i + 1) by omega))
        by_cases h3 : k2 < pl
        ·have h3I : (k2 : Int) < (pl : Int) := by omega
         obtain ⟨d0, _, _⟩ := HC.out wr P7.out.b
         dsimp only at d0
         by_cases h14 : kd = 14
         ·have hk14 : (kd == 14) = true := by simpa using h14
          clear h14
          go_wp2_with fail
          go_roundw
          case rel => exact ⟨i + 1, q2, by omega, by go_num, P7, HI2⟩
          case measure => simp [intOf]; omega
         ·have hk14 : (kd == 14) = false := by simpa using h14
          have HM14 := Lib.hid (HMEM.out h14)
          clear h14
          obtain ⟨hx2, hhx⟩ : ∃ x, hl[k2]? = some x := ⟨_, List.getElem?_eq_getElem (by rw [HPL.out]; exact h3)⟩
          have HIN := Lib.hid (HM14.out hx2 (List.mem_of_getElem? hhx))
          obtain ⟨gh, rfl, _⟩ := HGH.out wr O7.out k2 hx2 hhx
          have HCH := Lib.hid (show ∀ W, Below w6.heap.size w6 W → W.cell? ⟨gh, k2, none⟩ = some (.int .i64 hx2) from fun W hW => by
           obtain ⟨g', e, h⟩ := HGH.out W hW k2 hx2 hhx
           injection e with e
           injection e with e
           rw [e]; exact h)
          have ek2 : IntKind.i64.wrap ((k2 : Int) + 1) = ((k2 + 1 : Nat) : Int) := IntWalk.i64_in _ (by omega)
          clear hhx
          go_wp2_with fail
          go_loopw [13, 14] (fun fv jv wx => ∃ (j : Nat) (b : Bool), j ≤ mn ∧ jv = .int .i64 j ∧ fv = .bool b ∧ Hid ((∃ j', j' < j ∧ ml[j']? = some hx2) → b = true) ∧ Hid (Below w6.heap.size w6 wx)) (fun _ jv _ => mn - (intOf jv).toNat)
          case atStart => exact ⟨0, false, Nat.zero_le _, rfl, rfl, Lib.hid (fun ⟨j', h, _⟩ => absurd h (Nat.not_lt_zero j')), O7⟩
          case round =>
           obtain ⟨j, b, hj, rfl, rfl, HJ, O8⟩ := hrel
           by_cases h4 : j < mn
           ·have h4I : (j : Int) < (mn : Int) := by omega
            have ej : IntKind.i64.wrap ((j : Int) + 1) = ((j + 1 : Nat) : Int) := IntWalk.i64_in _ (by omega)
            have OD := Lib.hid O8.out.drew
            cases b with
            | true =>
             go_wp2_with fail
             refine wp_region_held_drew (S := fun _ => True) (by kernel_rfl) (trivial) (fun hHeld => ?_)
             refine tkf (i := 0) (oi := ⟨some 108, _, _, _, _, _⟩) (v := ?_) rfl (by kernel_rfl) (fun _ _ _ h => h) (by assumption) ?_ ?_
             rotate_left
             ·(intro w hS; (try dsimp only at hS); go_simp; try with_reducible rfl)
             try simp only [Act.put, pa, pb, pc]
             refine tkf (i := 1) (oi := ⟨some 109, _, _, _, _, _⟩) (v := ?_) rfl (by kernel_rfl) (fun _ _ _ h => h) (by assumption) ?_ ?_
             rotate_left
             ·(intro w hS; (try dsimp only at hS); go_simp; try with_reducible rfl)
             try simp only [Act.put, pa, pb, pc]
             refine tks (i := 2) (oi := ⟨some 110, _, _, _, _, _⟩) rfl (by kernel_rfl) (fun _ _ _ h => h) (by assumption) ?_
             try simp only [Act.put, pa, pb, pc]
             refine tks (i := 3) (oi := ⟨some 111, _, _, _, _, _⟩) rfl (by kernel_rfl) (fun _ _ _ h => h) (by assumption) ?_
             try simp only [Act.put, pa, pb, pc]
             refine tks (i := 4) (oi := ⟨some 112, _, _, _, _, _⟩) rfl (by kernel_rfl) (fun _ _ _ h => h) (by assumption) ?_
             try simp only [Act.put, pa, pb, pc]
             refine tks (i := 5) (oi := ⟨some 113, _, _, _, _, _⟩) rfl (by kernel_rfl) (fun _ _ _ h => h) (by assumption) ?_
             try simp only [Act.put, pa, pb, pc]
             refine tks (i := 6) (oi := ⟨some 114, _, _, _, _, _⟩) rfl (by kernel_rfl) (fun _ _ _ h => h) (by assumption) ?_
             try simp only [Act.put, pa, pb, pc]
             refine tks (i := 7) (oi := ⟨some 115, _, _, _, _, _⟩) rfl (by kernel_rfl) (fun _ _ _ h => h) (by assumption) ?_
             try simp only [Act.put, pa, pb, pc]
             refine tks (i := 8) (oi := ⟨some 116, _, _, _, _, _⟩) rfl (by kernel_rfl) (fun _ _ _ h => h) (by assumption) ?_
             try simp only [Act.put, pa, pb, pc]
             refine tks (i := 9) (oi := ⟨some 117, _, _, _, _, _⟩) rfl (by kernel_rfl) (fun _ _ _ h => h) (by assumption) ?_
             try simp only [Act.put, pa, pb, pc]
             refine tks (i := 10) (oi := ⟨some 118, _, _, _, _, _⟩) rfl (by kernel_rfl) (fun _ _ _ h => h) (by assumption) ?_
             try simp only [Act.put, pa, pb, pc]
             refine tkf (i := 11) (oi := ⟨some 119, _, _, _, _, _⟩) (v := ?_) rfl (by kernel_rfl) (fun _ _ _ h => h) (by assumption) ?_ ?_
             rotate_left
             ·(intro w hS; (try dsimp only at hS); go_simp; try with_reducible rfl)
             try simp only [Act.put, pa, pb, pc]
             refine tkf (i := 12) (oi := ⟨some 13, _, _, _, _, _⟩) (v := ?_) rfl (by kernel_rfl) (fun _ _ _ h => h) (by assumption) ?_ ?_
             rotate_left
             ·(intro w hS; (try dsimp only at hS); go_simp; try with_reducible rfl)
             try simp only [Act.put, pa, pb, pc]
             refine wpAnyH_done (by kernel_rfl) ?_ _
             go_wp2_with fail
             go_roundw
             case rel => exact ⟨j + 1, true, by omega, by go_num, rfl, Lib.hid (fun _ => rfl), OD⟩
             case measure => simp [intOf]; omega
            | false =>
             obtain ⟨mx, hmx⟩ : ∃ x, ml[j]? = some x := ⟨_, List.getElem?_eq_getElem (by rw [HML.out]; exact h4)⟩
             obtain ⟨gm, rfl, hcm⟩ := HGM.out _ OD.out j mx hmx
             have HS8 := Lib.hid (show (fun W' => W'.cell? ⟨gm, j, none⟩ = some (.int .i64 mx) ∧ W'.cell? ⟨gh, k2, none⟩ = some (.int .i64 hx2)) wr.drew from ⟨hcm, HCH.out _ OD.out⟩)
             have HMX := Lib.hid hmx
             clear hmx hcm
             by_cases he : mx = hx2
             ·have hq : (mx == hx2) = true := by simpa using he
              clear he
              go_wp2_with fail
              refine wp_region_held_drew (S := fun W' => W'.cell? ⟨gm, j, none⟩ = some (.int .i64 mx) ∧ W'.cell? ⟨gh, k2, none⟩ = some (.int .i64 hx2)) (by kernel_rfl) (HS8.out) (fun hHeld => ?_)
              refine tkf (i := 0) (oi := ⟨some 108, _, _, _, _, _⟩) (v := ?_) rfl (by kernel_rfl) (fun _ _ _ h => h) (by assumption) ?_ ?_
              rotate_left
              ·(intro w hS; (try dsimp only at hS); go_simp; try with_reducible rfl)
              try simp only [Act.put, pa, pb, pc]
              refine tkf (i := 1) (oi := ⟨some 109, _, _, _, _, _⟩) (v := ?_) rfl (by kernel_rfl) (fun _ _ _ h => h) (by assumption) ?_ ?_
              rotate_left
              ·(intro w hS; (try dsimp only at hS); go_simp; try with_reducible rfl)
              try simp only [Act.put, pa, pb, pc]
              refine tkf (i := 2) (oi := ⟨some 110, _, _, _, _, _⟩) (v := ?_) rfl (by kernel_rfl) (fun _ _ _ h => h) (by assumption) ?_ ?_
              rotate_left
              ·(intro w hS; (try dsimp only at hS); go_simp; try with_reducible rfl)
              try simp only [Act.put, pa, pb, pc]
              refine tkf (i := 3) (oi := ⟨some 111, _, _, _, _, _⟩) (v := ?_) rfl (by kernel_rfl) (fun _ _ _ h => h) (by assumption) ?_ ?_
              rotate_left
              ·(intro w hS; (try dsimp only at hS); go_simp; try with_reducible rfl)
              try simp only [Act.put, pa, pb, pc]
              refine tkf (i := 4) (oi := ⟨some 112, _, _, _, _, _⟩) (v := ?_) rfl (by kernel_rfl) (fun _ _ _ h => h) (by assumption) ?_ ?_
              rotate_left
              ·(intro w hS; (try dsimp only at hS); go_simp; try with_reducible rfl)
              try simp only [Act.put, pa, pb, pc]
              refine tkf (i := 5) (oi := ⟨some 113, _, _, _, _, _⟩) (v := ?_) rfl (by kernel_rfl) (fun _ _ _ h => h) (by assumption) ?_ ?_
              rotate_left
              ·(intro w hS; (try dsimp only at hS); go_simp; try with_reducible rfl)
              try simp only [Act.put, pa, pb, pc]
              refine tkf (i := 6) (oi := ⟨some 114, _, _, _, _, _⟩) (v := ?_) rfl (by kernel_rfl) (fun _ _ _ h => h) (by assumption) ?_ ?_
              rotate_left
              ·(intro w hS; (try dsimp only at hS); go_simp; try with_reducible rfl)
              try simp only [Act.put, pa, pb, pc]
              refine tkf (i := 7) (oi := ⟨some 115, _, _, _, _, _⟩) (v := ?_) rfl (by kernel_rfl) (fun _ _ _ h => h) (by assumption) ?_ ?_
              rotate_left
              ·(intro w hS; (try dsimp only at hS); go_simp; try with_reducible rfl)
              try simp only [Act.put, pa, pb, pc]
              refine tkf (i := 8) (oi := ⟨some 116, _, _, _, _, _⟩) (v := ?_) rfl (by kernel_rfl) (fun _ _ _ h => h) (by assumption) ?_ ?_
              rotate_left
              ·(intro w hS; (try dsimp only at hS); go_simp; try with_reducible rfl)
              try simp only [Act.put, pa, pb, pc]
              refine tkf (i := 9) (oi := ⟨some 117, _, _, _, _, _⟩) (v := ?_) rfl (by kernel_rfl) (fun _ _ _ h => h) (by assumption) ?_ ?_
              rotate_left
              ·(intro w hS; (try dsimp only at hS); go_simp; try with_reducible rfl)
              try simp only [Act.put, pa, pb, pc]
              refine tkf (i := 10) (oi := ⟨some 118, _, _, _, _, _⟩) (v := ?_) rfl (by kernel_rfl) (fun _ _ _ h => h) (by assumption) ?_ ?_
              rotate_left
              ·(intro w hS; (try dsimp only at hS); go_simp; try with_reducible rfl)
              try simp only [Act.put, pa, pb, pc]
              refine tkf (i := 11) (oi := ⟨some 119, _, _, _, _, _⟩) (v := ?_) rfl (by kernel_rfl) (fun _ _ _ h => h) (by assumption) ?_ ?_
              rotate_left
              ·(intro w hS; (try dsimp only at hS); go_simp; try with_reducible rfl)
              try simp only [Act.put, pa, pb, pc]
              refine tkf (i := 12) (oi := ⟨some 13, _, _, _, _, _⟩) (v := ?_) rfl (by kernel_rfl) (fun _ _ _ h => h) (by assumption) ?_ ?_
              rotate_left
              ·(intro w hS; (try dsimp only at hS); go_simp; try with_reducible rfl)
              try simp only [Act.put, pa, pb, pc]
              refine wpAnyH_done (by kernel_rfl) ?_ _
              go_wp2_with fail
              go_roundw
              case rel => exact ⟨j + 1, true, by omega, by go_num, rfl, Lib.hid (fun _ => rfl), OD⟩
              case measure => simp [intOf]; omega
             ·have hq : (mx == hx2) = false := by simpa using he
              have HJ2 := Lib.hid (show (∃ j', j' < j + 1 ∧ ml[j']? = some hx2) → false = true from fun ⟨j', h, h'⟩ => by
               by_cases hjj : j' = j
               ·subst hjj
                rw [HMX.out] at h'
                injection h' with h'
                exact absurd h' he
               ·exact HJ.out ⟨j', by omega, h'⟩)
              clear he
              go_wp2_with fail
              refine wp_region_held_drew (S := fun W' => W'.cell? ⟨gm, j, none⟩ = some (.int .i64 mx) ∧ W'.cell? ⟨gh, k2, none⟩ = some (.int .i64 hx2)) (by kernel_rfl) (HS8.out) (fun hHeld => ?_)
              refine tkf (i := 0) (oi := ⟨some 108, _, _, _, _, _⟩) (v := ?_) rfl (by kernel_rfl) (fun _ _ _ h => h) (by assumption) ?_ ?_
              rotate_left
              ·(intro w hS; (try dsimp only at hS); go_simp; try with_reducible rfl)
              try simp only [Act.put, pa, pb, pc]
              refine tkf (i := 1) (oi := ⟨some 109, _, _, _, _, _⟩) (v := ?_) rfl (by kernel_rfl) (fun _ _ _ h => h) (by assumption) ?_ ?_
              rotate_left
              ·(intro w hS; (try dsimp only at hS); go_simp; try with_reducible rfl)
              try simp only [Act.put, pa, pb, pc]
              refine tkf (i := 2) (oi := ⟨some 110, _, _, _, _, _⟩) (v := ?_) rfl (by kernel_rfl) (fun _ _ _ h => h) (by assumption) ?_ ?_
              rotate_left
              ·(intro w hS; (try dsimp only at hS); go_simp; try with_reducible rfl)
              try simp only [Act.put, pa, pb, pc]
              refine tkf (i := 3) (oi := ⟨some 111, _, _, _, _, _⟩) (v := ?_) rfl (by kernel_rfl) (fun _ _ _ h => h) (by assumption) ?_ ?_
              rotate_left
              ·(intro w hS; (try dsimp only at hS); go_simp; try with_reducible rfl)
              try simp only [Act.put, pa, pb, pc]
              refine tkf (i := 4) (oi := ⟨some 112, _, _, _, _, _⟩) (v := ?_) rfl (by kernel_rfl) (fun _ _ _ h => h) (by assumption) ?_ ?_
              rotate_left
              ·(intro w hS; (try dsimp only at hS); go_simp; try with_reducible rfl)
              try simp only [Act.put, pa, pb, pc]
              refine tkf (i := 5) (oi := ⟨some 113, _, _, _, _, _⟩) (v := ?_) rfl (by kernel_rfl) (fun _ _ _ h => h) (by assumption) ?_ ?_
              rotate_left
              ·(intro w hS; (try dsimp only at hS); go_simp; try with_reducible rfl)
              try simp only [Act.put, pa, pb, pc]
              refine tkf (i := 6) (oi := ⟨some 114, _, _, _, _, _⟩) (v := ?_) rfl (by kernel_rfl) (fun _ _ _ h => h) (by assumption) ?_ ?_
              rotate_left
              ·(intro w hS; (try dsimp only at hS); go_simp; try with_reducible rfl)
              try simp only [Act.put, pa, pb, pc]
              refine tkf (i := 7) (oi := ⟨some 115, _, _, _, _, _⟩) (v := ?_) rfl (by kernel_rfl) (fun _ _ _ h => h) (by assumption) ?_ ?_
              rotate_left
              ·(intro w hS; (try dsimp only at hS); go_simp; try with_reducible rfl)
              try simp only [Act.put, pa, pb, pc]
              refine tkf (i := 8) (oi := ⟨some 116, _, _, _, _, _⟩) (v := ?_) rfl (by kernel_rfl) (fun _ _ _ h => h) (by assumption) ?_ ?_
              rotate_left
              ·(intro w hS; (try dsimp only at hS); go_simp; try with_reducible rfl)
              try simp only [Act.put, pa, pb, pc]
              refine tkf (i := 9) (oi := ⟨some 117, _, _, _, _, _⟩) (v := ?_) rfl (by kernel_rfl) (fun _ _ _ h => h) (by assumption) ?_ ?_
              rotate_left
              ·(intro w hS; (try dsimp only at hS); go_simp; try with_reducible rfl)
              try simp only [Act.put, pa, pb, pc]
              refine tkf (i := 10) (oi := ⟨some 118, _, _, _, _, _⟩) (v := ?_) rfl (by kernel_rfl) (fun _ _ _ h => h) (by assumption) ?_ ?_
              rotate_left
              ·(intro w hS; (try dsimp only at hS); go_simp; try with_reducible rfl)
              try simp only [Act.put, pa, pb, pc]
              refine tkf (i := 11) (oi := ⟨some 119, _, _, _, _, _⟩) (v := ?_) rfl (by kernel_rfl) (fun _ _ _ h => h) (by assumption) ?_ ?_
              rotate_left
              ·(intro w hS; (try dsimp only at hS); go_simp; try with_reducible rfl)
              try simp only [Act.put, pa, pb, pc]
              refine tkf (i := 12) (oi := ⟨some 13, _, _, _, _, _⟩) (v := ?_) rfl (by kernel_rfl) (fun _ _ _ h => h) (by assumption) ?_ ?_
              rotate_left
              ·(intro w hS; (try dsimp only at hS); go_simp; try with_reducible rfl)
              try simp only [Act.put, pa, pb, pc]
              refine wpAnyH_done (by kernel_rfl) ?_ _
              go_wp2_with fail
              go_roundw
              case rel => exact ⟨j + 1, false, by omega, by go_num, rfl, HJ2, OD⟩
              case measure => simp [intOf]; omega
           ·obtain rfl : mn = j := by omega
            have hbt : b = true := HJ.out (by
             obtain ⟨j', hj'⟩ := List.mem_iff_getElem?.1 HIN.out
             exact ⟨j', by rw [← HML.out]; exact (List.getElem?_eq_some_iff.1 hj').1, hj'⟩)
            subst hbt
            go_wp2_with fail
            go_roundw
            case rel => exact ⟨k2 + 1, by omega, by first | exact ⟨by go_num, O8⟩ | omega⟩
            case measure => simp [intOf]; omega
        ·have h3I : ¬ (k2 : Int) < (pl : Int) := by omega
         go_wp2_with fail
         go_roundw
         case rel => exact ⟨i + 1, q2, by omega, by go_num, P7, HI2⟩
         case measure => simp [intOf]; omega
   ·have h2I : ¬ (i : Int) < 50 := by omega
    go_wp2_with fail
    go_ret
    exact ⟨by first | rfl | simp, HP.out.b⟩
  ·have h1I : ¬ (i : Int) < (m : Int) := by omega
   go_wp2_with fail
   go_ret
   exact ⟨by first | rfl | simp, HP.out.b⟩
end Go.Proofs.YtbelcgjbhpjnpaaGreat.Sh
