/- the document's slots by its contracts: Check. -/
import Derived.Test.YticehnnbjbliaabSlRef
namespace Go.Proofs.Yticehnnbjbliaab.Sl
open Go.RowKit

set_option maxRecDepth 100000 in
set_option maxHeartbeats 4000000 in
theorem rcheck_loop (s : ByteArray) (w : World) (hl : s.size = 232) (hh : at2 s.data.toList 2 ≤ 232) (h4 : 4 + 4 * at2 s.data.toList 0 ≤ at2 s.data.toList 2) :
    Calls Try.prog 15 #[.string s] w fun e w' => e = .returned (.int .i64 (checkF s.data.toList)) ∧ Below w.heap.size w w' := by
  have hL : s.data.toList.length = 232 := by simpa using hl
  have HLI := Lib.hid (fun (k : Nat) (hk : k < at2 s.data.toList 0) (h : ¬ (at2 s.data.toList 2 ≤ (slot s.data.toList k).1 ∧ (slot s.data.toList k).1 + (slot s.data.toList k).2 ≤ 232)) => check_lies hL hk h)
  have HMB := Lib.hid (fun (k : Nat) (hk : k < at2 s.data.toList 0) (j : Nat) (h1 : (slot s.data.toList k).1 ≤ j) (h2 : j < (slot s.data.toList k).1 + (slot s.data.toList k).2) (hm : mk2 s.data.toList k j j = true) => mark_bad hL hk h1 h2 hm)
  have HMG := Lib.hid (fun (k : Nat) (hk : k < at2 s.data.toList 0) (h : ∀ j, (slot s.data.toList k).1 ≤ j → j < (slot s.data.toList k).1 + (slot s.data.toList k).2 → mk2 s.data.toList k j j = false) => mark_good h hk)
  have HOK := Lib.hid (fun (hf : Fit (at2 s.data.toList 2) (slots s.data.toList)) => check_good hL hh h4 hf)
  have HST := Lib.hid (fun (k : Nat) (hk : k < at2 s.data.toList 0) (hf : Fit (at2 s.data.toList 2) ((slots s.data.toList).take k)) (hx : at2 s.data.toList 2 ≤ (slot s.data.toList k).1 ∧ (slot s.data.toList k).1 + (slot s.data.toList k).2 ≤ 232) (ha : ∀ j, j < k → apart (slot s.data.toList k) (slot s.data.toList j) = true) => fit_step hk hf hx ha)
  have HAL := Lib.hid (show (slots s.data.toList).take (at2 s.data.toList 0) = slots s.data.toList from List.take_of_length_le (by rw [slots_length]; exact Nat.le_refl _))
  have HM0 := Lib.hid (fun k => mk2_start s.data.toList k)
  have HM1 := Lib.hid (fun k (hk : k < at2 s.data.toList 0) => mk2_end s.data.toList k hk)
  have HMS := Lib.hid (fun k j h => mk2_step s.data.toList k j h)
  have HC0 := Lib.hid (show (fun _ => false) = fun i => cover ((slots s.data.toList).take 0) i from by funext i; rw [List.take_zero]; rfl)
  have hsl : ∀ k, (slot s.data.toList k).1 < 65536 ∧ (slot s.data.toList k).2 < 65536 := fun k => ⟨at2_lt _ _, at2_lt _ _⟩
  have HSL := Lib.hid hsl
  have KN := Lib.hid (fun (k : Nat) (w' : World) (hk : k < at2 s.data.toList 0) => num_any s (4 + 4 * (k : Int)) w' (by omega) (by omega) (by omega))
  have KM := Lib.hid (fun (k : Nat) (w' : World) (hk : k < at2 s.data.toList 0) => num_any s (6 + 4 * (k : Int)) w' (by omega) (by omega) (by omega))
  have HS1 := Lib.hid (show ∀ k : Nat, at2 s.data.toList (4 + 4 * (k : Int)).toNat = (slot s.data.toList k).1 from fun k => by rw [show (4 + 4 * (k : Int)).toNat = 4 + 4 * k by omega]; rfl)
  have HS2 := Lib.hid (show ∀ k : Nat, at2 s.data.toList (6 + 4 * (k : Int)).toNat = (slot s.data.toList k).2 from fun k => by rw [show (6 + 4 * (k : Int)).toNat = 6 + 4 * k by omega]; rfl)
  clear hsl hL
  have hs1 : s.size ≤ 232 := by omega
  have hsb : ((s.size : Int) == 232) = true := by simp; omega
  have HHL := Lib.hid hl
  have K0 := Lib.hid (fun w' => num_any s 0 w' (by omega) (by omega) (by omega))
  have K2 := Lib.hid (fun w' => num_any s 2 w' (by omega) (by omega) (by omega))
  clear hl
  simp only [show (0 : Int).toNat = 0 from rfl, show (2 : Int).toNat = 2 from rfl] at K0 K2
  generalize hq : checkF s.data.toList = q at *
  clear hq
  generalize at2 s.data.toList 0 = n at *
  generalize at2 s.data.toList 2 = heap at *
  have hmk := fun w' => make_marks w'
  go_enter Try.func15, Try.ntmps15
  go_wp2_with fail
  refine (K0.out _).mono ?_
  rintro e w1 ⟨rfl, hb1⟩
  go_wp2_with fail
  refine (K2.out _).mono ?_
  rintro e w2 ⟨rfl, hb2⟩
  have O2 := Lib.hid (bstep hb1 hb2)
  have B3 := Lib.hid (Blk.new w2 3 (uc fun _ => false).toArray)
  have O3 := Lib.hid (bstep O2.out ((Below.refl w2.heap.size w2).alloc (Nat.le_refl _) (.cells (uc fun _ => false).toArray 3)))
  have hg := O2.out.size
  rw [HC0.out] at B3 O3
  clear hb1 hb2 K0 K2
  go_wp2_with fail
  rw [HC0.out]
  generalize w2.alloc (.cells (uc fun i => cover ((slots s.data.toList).take 0) i).toArray 3) = W at *
  generalize w2.heap.size = g at *
  clear hmk
  go_loopw [6] (fun iv wr => ∃ k : Nat, k ≤ n ∧ iv = .int .i64 k ∧ Blk wr g 3 (uc fun i => cover ((slots s.data.toList).take k) i).toArray ∧ Below w.heap.size w wr ∧ Hid (Fit heap ((slots s.data.toList).take k))) (fun iv _ => n - (intOf iv).toNat)
  case atStart => exact ⟨0, Nat.zero_le _, rfl, B3.out, O3.out, Lib.hid (by rw [List.take_zero]; exact Fit.nil _)⟩
  case round =>
    obtain ⟨k, hk, rfl, B, O, F⟩ := hrel
    by_cases h : k < n
    · have b0 := HSL.out k
      have LI := Lib.hid (HLI.out k h)
      have MB := Lib.hid (HMB.out k h)
      have MG := Lib.hid (HMG.out k h)
      have ST := Lib.hid (HST.out k h F.out)
      have M0 := Lib.hid (HM0.out k)
      have M1 := Lib.hid (HM1.out k h)
      have MS := Lib.hid (HMS.out k)
      have K4 := fun w' => KN.out k w' h
      have K6 := fun w' => KM.out k w' h
      rw [HS1.out] at K4
      rw [HS2.out] at K6
      have K4 := Lib.hid K4
      have K6 := Lib.hid K6
      have BB := Lib.hid B
      have OO := Lib.hid O
      clear B O
      generalize slot s.data.toList k = x at *
      obtain ⟨x0, x1⟩ := x
      simp only at b0 K4 K6 M0 M1 MS MB MG LI
      go_wp2_with fail
      refine (K4.out _).mono ?_
      rintro e w4 ⟨rfl, hb4⟩
      have B4 := Lib.hid (BB.out.below hb4 BB.out.lt)
      have O4 := Lib.hid (bstep OO.out hb4)
      clear hb4 BB OO
      go_wp2_with fail
      refine (K6.out _).mono ?_
      rintro e w5 ⟨rfl, hb5⟩
      have B5 := Lib.hid (B4.out.below hb5 B4.out.lt)
      have O5 := Lib.hid (bstep O4.out hb5)
      clear hb5 B4 O4 K4 K6
      have hx : heap ≤ x0 ∧ x0 + x1 ≤ 232 ∨ (heap ≤ x0 ∧ 232 < x0 + x1) ∨ x0 < heap := by omega
      rcases hx with ⟨g1, g2⟩ | ⟨g1, g2⟩ | g1
      · go_wp2_with fail
        go_loopw [9] (fun jv w6 => ∃ j : Nat, x0 ≤ j ∧ j ≤ x0 + x1 ∧ jv = .int .i64 j ∧ Blk w6 g 3 (uc (mk2 s.data.toList k j)).toArray ∧ Below w.heap.size w w6 ∧ Hid (∀ i, x0 ≤ i → i < j → mk2 s.data.toList k i i = false)) (fun jv _ => x0 + x1 - (intOf jv).toNat)
        case atStart => exact ⟨x0, Nat.le_refl _, by omega, rfl, by rw [M0.out]; exact B5.out, O5.out, Lib.hid fun i h1 h2 => absurd h1 (by omega)⟩
        case round =>
          obtain ⟨j, hj0, hj, rfl, B6, O6, HJ⟩ := hrel
          by_cases hjk : j < x0 + x1
          · have c6 := B6.cell_some (i := j) (by rw [List.getElem?_toArray]; exact uc_get _ _ (by omega))
            have z6 := B6.frozen j (by rw [List.size_toArray, uc_length]; omega)
            have BB6 := Lib.hid B6
            have OO6 := Lib.hid O6
            have MBj := Lib.hid (MB.out j hj0 hjk)
            clear B6 O6
            cases hm : mk2 s.data.toList k j j
            · rw [hm] at c6
              have HM := Lib.hid hm
              clear hm
              simp only [Bool.false_eq_true, if_false] at c6
              have B7 := Lib.hid (BB6.out.set_ j (.int .i64 1))
              rw [List.setIfInBounds_toArray, uc_set _ _ (by omega), MS.out j hj0] at B7
              have O7 := Lib.hid (OO6.out.setCell (p := ⟨g, j, none⟩) hg (.int .i64 1))
              go_wp2_with fail
              go_roundw
              case rel => exact ⟨j + 1, by omega, by omega, by go_num, B7.out, O7.out, Lib.hid fun i h1 h2 => by
                rcases Nat.lt_or_ge i j with h | h
                · exact HJ.out i h1 h
                · obtain rfl : i = j := by omega
                  exact HM.out⟩
              case measure => simp [intOf]; omega
            · rw [hm] at c6
              have hq := MBj.out hm
              clear hm
              simp only [if_true] at c6
              go_wp2_with fail
              go_ret
              exact ⟨by first | rfl | (rw [hq]; rfl), OO6.out⟩
          · have hje := Lib.hid (show j = x0 + x1 by omega)
            have BB6 := Lib.hid B6
            have OO6 := Lib.hid O6
            clear B6 O6
            go_wp2_with fail
            go_roundw
            case rel => exact ⟨k + 1, by omega, by go_num, by have := BB6.out; rw [hje.out, M1.out] at this; exact this, OO6.out, Lib.hid (ST.out ⟨g1, g2⟩ (MG.out fun i h1 h2 => HJ.out i h1 (by have := hje.out; omega)))⟩
            case measure => simp [intOf]; omega
      · have hq := LI.out (by omega)
        go_wp2_with fail
        go_ret
        exact ⟨by first | rfl | (rw [hq]; rfl), O5.out⟩
      · have hq := LI.out (by omega)
        go_wp2_with fail
        go_ret
        exact ⟨by first | rfl | (rw [hq]; rfl), O5.out⟩
    · have hkn : k = n := by omega
      have H2 := Lib.hid hkn
      have OO := Lib.hid O
      clear hkn B O
      go_wp2_with fail
      go_ret
      refine ⟨?_, OO.out⟩
      have hf := F.out
      rw [H2.out, HAL.out] at hf
      rw [HOK.out hf]
      rfl
set_option maxRecDepth 100000 in
set_option maxHeartbeats 1000000 in
theorem rcheck_any (s : ByteArray) (w : World) (hs : s.size ≤ 1000000) :
    Calls Try.prog 15 #[.string s] w fun e w' => e = .returned (.int .i64 (checkF s.data.toList)) ∧ Below w.heap.size w w' := by
  by_cases hl : s.size = 232
  · by_cases hg : at2 s.data.toList 2 ≤ 232 ∧ 4 + 4 * at2 s.data.toList 0 ≤ at2 s.data.toList 2
    · exact rcheck_loop s w hl hg.1 hg.2
    · have hL : s.data.toList.length = 232 := by simpa using hl
      have e1 : checkF s.data.toList = 14 := check_bad hL fun S => hg ⟨S.heap, S.head⟩
      rw [e1]
      have K0 := Lib.hid (fun w' => num_any s 0 w' (by omega) (by omega) (by omega))
      have K2 := Lib.hid (fun w' => num_any s 2 w' (by omega) (by omega) (by omega))
      simp only [show (0 : Int).toNat = 0 from rfl, show (2 : Int).toNat = 2 from rfl] at K0 K2
      have b0 := at2_lt s.data.toList 0
      generalize at2 s.data.toList 0 = n at *
      generalize at2 s.data.toList 2 = heap at *
      have hsb : ((s.size : Int) == 232) = true := by simp; omega
      have hx : 232 < heap ∨ (heap ≤ 232 ∧ heap < 4 + 4 * n) := by omega
      clear hl hg e1 hL
      rcases hx with h1 | ⟨h1, h2⟩
      all_goals
        go_enter Try.func15, Try.ntmps15
        go_wp2_with fail
        refine (K0.out _).mono ?_
        rintro e w1 ⟨rfl, hb1⟩
        go_wp2_with fail
        refine (K2.out _).mono ?_
        rintro e w2 ⟨rfl, hb2⟩
        have O := Lib.hid (bstep hb1 hb2)
        clear hb1 hb2
        go_wp2_with fail
        go_ret
        exact ⟨rfl, O.out⟩
  · have e1 : checkF s.data.toList = 6 := by unfold checkF; rw [if_neg (by simpa using hl)]
    rw [e1]
    have hsb : ((s.size : Int) == 232) = false := by simp; omega
    clear e1 hl
    go_enter Try.func15, Try.ntmps15
    go_wp2_with fail
    go_ret
    exact ⟨rfl, Below.refl _ _⟩
end Go.Proofs.Yticehnnbjbliaab.Sl
