/- slots by its contracts: Check. -/
import Derived.Test.YticehnnbjbliaabSl2
namespace Go.Proofs.Yticehnnbjbliaab.Sl
open Go.RowKit

theorem ret_bool {a b : Bool} (h : a = b) : Ending.returned (.bool a) = .returned (.bool b) := by rw [h]
set_option maxRecDepth 100000 in
set_option maxHeartbeats 1000000 in
theorem apart_any (x y : Slot) (w : World) (hx : x.1 + x.2 ≤ 1000000) (hy : y.1 + y.2 ≤ 1000000) :
    Calls Try.prog 50 #[.agg #[.int .i64 x.1, .int .i64 x.2], .agg #[.int .i64 y.1, .int .i64 y.2]] w fun e w' => e = .returned (.bool (apart x y)) ∧ Below w.heap.size w w' := by
  obtain ⟨a, b⟩ := x
  obtain ⟨c, d⟩ := y
  have O := Lib.hid (((Below.refl w.heap.size w).alloc (Nat.le_refl _) (.cells #[.int .i64 a, .int .i64 b] 81)).alloc (by simp) (.cells #[.int .i64 c, .int .i64 d] 81))
  simp only at hx hy
  have HA := Lib.hid (show apart (a, b) (c, d) = (decide (b = 0) || (decide (d = 0) || (decide (a + b ≤ c) || decide (c + d ≤ a)))) from rfl)
  go_enter Try.func50, Try.ntmps50
  go_wp2
  all_goals go_ret
  all_goals
    refine ⟨ret_bool ?_, ((Below.refl _ _).alloc (Nat.le_refl _) _).alloc (by simp) _⟩
    rw [HA.out, Bool.eq_iff_iff]
    simp
    try omega
theorem check_bad {b : List UInt8} (hl : b.length = 232) (h : ¬ Sound b) : checkF b = 14 := by
  unfold checkF
  rw [if_pos hl, if_neg]
  rw [soundB_iff]
  exact h
theorem check_lies {b : List UInt8} (hl : b.length = 232) {k : Nat} (hk : k < at2 b 0) (h : ¬ (at2 b 2 ≤ (slot b k).1 ∧ (slot b k).1 + (slot b k).2 ≤ 232)) : checkF b = 14 :=
  check_bad hl fun S => h (S.fit.lies _ (List.mem_of_getElem? (slots_get b k hk)))
theorem check_apart {b : List UInt8} (hl : b.length = 232) {k j : Nat} (hk : k < at2 b 0) (hj : j < k) (h : apart (slot b k) (slot b j) = false) : checkF b = 14 :=
  check_bad hl fun S => by
    have hp := S.fit.apart
    rw [List.pairwise_iff_getElem] at hp
    have h1 := hp j k (by rw [slots_length]; omega) (by rw [slots_length]; omega) hj
    simp only [slots, List.getElem_map, List.getElem_range] at h1
    rw [apart_comm, h] at h1
    cases h1
theorem check_good {b : List UInt8} (hl : b.length = 232) (hh : at2 b 2 ≤ 232) (h4 : 4 + 4 * at2 b 0 ≤ at2 b 2) (hf : Fit (at2 b 2) (slots b)) : checkF b = 0 := (checkF_ok b).2 ⟨hl, hh, h4, hf⟩
theorem fit_step {b : List UInt8} {heap k : Nat} (hk : k < at2 b 0) (hf : Fit heap ((slots b).take k)) (hx : heap ≤ (slot b k).1 ∧ (slot b k).1 + (slot b k).2 ≤ 232) (ha : ∀ j, j < k → apart (slot b k) (slot b j) = true) : Fit heap ((slots b).take (k + 1)) := by
  rw [slots_take b k hk, Fit.snoc]
  refine ⟨hf, hx, fun y hy => ?_⟩
  obtain ⟨j, hj, rfl⟩ := List.getElem_of_mem hy
  have hj2 : j < k := by simp at hj; omega
  simp only [slots, List.getElem_take, List.getElem_map, List.getElem_range]
  exact ha j hj2
/-- a slot's cells, of a slice of slots -/
theorem slot_cells {w : World} {g n cap : Nat} {l : List Slot} (S : Slc w 81 2 (.slice (some ⟨g, 0, none⟩) n cap) n (sc l)) (k : Nat) (hk : k < l.length) : w.cell? ⟨g, k * 2, none⟩ = some (.int .i64 l[k].1) ∧ w.cell? ⟨g, k * 2 + 1, none⟩ = some (.int .i64 l[k].2) := by
  obtain ⟨rest, B, _⟩ := S.blk
  obtain ⟨h0, h1⟩ := sc_get l k hk
  have hlen := sc_length l
  exact ⟨B.cell_some (by rw [List.getElem?_toArray, List.getElem?_append_left (by omega)]; exact h0), B.cell_some (by rw [List.getElem?_toArray, List.getElem?_append_left (by omega)]; exact h1)⟩
theorem slots_getElem (b : List UInt8) (k : Nat) (h : k < (slots b).length) : (slots b)[k] = slot b k := by simp [slots]
set_option maxRecDepth 100000 in
set_option maxHeartbeats 4000000 in
theorem check_loop (s : ByteArray) (w : World) (hl : s.size = 232) (hh : at2 s.data.toList 2 ≤ 232) (h4 : 4 + 4 * at2 s.data.toList 0 ≤ at2 s.data.toList 2) :
    Calls Try.prog 41 #[.string s] w fun e w' => e = .returned (.int .i64 (checkF s.data.toList)) ∧ Below w.heap.size w w' := by
  have hL : s.data.toList.length = 232 := by simpa using hl
  have HLI := Lib.hid (fun (k : Nat) (hk : k < at2 s.data.toList 0) (h : ¬ (at2 s.data.toList 2 ≤ (slot s.data.toList k).1 ∧ (slot s.data.toList k).1 + (slot s.data.toList k).2 ≤ 232)) => check_lies hL hk h)
  have HAP := Lib.hid (fun (k j : Nat) (hk : k < at2 s.data.toList 0) (hj : j < k) (h : apart (slot s.data.toList k) (slot s.data.toList j) = false) => check_apart hL hk hj h)
  have HOK := Lib.hid (fun (hf : Fit (at2 s.data.toList 2) (slots s.data.toList)) => check_good hL hh h4 hf)
  have HST := Lib.hid (fun (k : Nat) (hk : k < at2 s.data.toList 0) (hf : Fit (at2 s.data.toList 2) ((slots s.data.toList).take k)) (hx : at2 s.data.toList 2 ≤ (slot s.data.toList k).1 ∧ (slot s.data.toList k).1 + (slot s.data.toList k).2 ≤ 232) (ha : ∀ j, j < k → apart (slot s.data.toList k) (slot s.data.toList j) = true) => fit_step hk hf hx ha)
  have HAL := Lib.hid (show (slots s.data.toList).take (at2 s.data.toList 0) = slots s.data.toList from List.take_of_length_le (by rw [slots_length]; exact Nat.le_refl _))
  have HN := Lib.hid (slots_length s.data.toList)
  have hb0 := fun k => at2_lt s.data.toList k
  have hsl : ∀ k, (slot s.data.toList k).1 < 65536 ∧ (slot s.data.toList k).2 < 65536 := fun k => ⟨hb0 _, hb0 _⟩
  have HSL := Lib.hid hsl
  have KL := Lib.hid (fun w' => list_any s w' (by omega) (by omega))
  clear hb0 hsl hL
  have hs1 : s.size ≤ 232 := by omega
  have hs2 : 232 ≤ s.size := by omega
  have hsb : ((s.size : Int) == 232) = true := by simp; omega
  have HHL := Lib.hid hl
  clear hl
  have K0 := Lib.hid (fun w' => two_any s 0 w' (by omega) (by omega) (by omega))
  have K2 := Lib.hid (fun w' => two_any s 2 w' (by omega) (by omega) (by omega))
  simp only [show (0 : Int).toNat = 0 from rfl, show (2 : Int).toNat = 2 from rfl] at K0 K2
  generalize hq : checkF s.data.toList = q at *
  have HQ := Lib.hid hq
  clear hq
  generalize at2 s.data.toList 0 = n at *
  generalize at2 s.data.toList 2 = heap at *
  go_enter Try.func41, Try.ntmps41
  go_wp2_with fail
  refine (K0.out _).mono ?_
  rintro e w1 ⟨rfl, hb1⟩
  go_wp2_with fail
  refine (K2.out _).mono ?_
  rintro e w2 ⟨rfl, hb2⟩
  go_wp2_with fail
  refine (KL.out _).mono ?_
  rintro e w3 ⟨v, rfl, S, hb3, fr⟩
  obtain ⟨A, c, rfl⟩ := slc_val S
  have S := Lib.hid S
  have O3 := Lib.hid (bstep (bstep hb1 hb2) hb3)
  clear hb1 hb2 hb3 fr K0 K2 KL
  go_wp2_with fail
  go_loopw [31] (fun iv wr => ∃ k : Nat, k ≤ n ∧ iv = .int .i64 k ∧ Slc wr 81 2 (.slice A n c) n (sc (slots s.data.toList)) ∧ Below w.heap.size w wr ∧ Hid (Fit heap ((slots s.data.toList).take k))) (fun iv _ => n - (intOf iv).toNat)
  case atStart => exact ⟨0, Nat.zero_le _, rfl, S.out, O3.out, Lib.hid (by rw [List.take_zero]; exact Fit.nil _)⟩
  case round =>
    obtain ⟨k, hk, rfl, S, O, F⟩ := hrel
    by_cases h : k < n
    · obtain ⟨g, cap, rest, hv, -, hcap, -⟩ := S.form (by omega) (by omega)
      simp only [Value.slice.injEq, true_and] at hv
      obtain ⟨rfl, rfl⟩ := hv
      have hcell := slot_cells S k (by rw [HN.out]; exact h)
      rw [slots_getElem] at hcell
      obtain ⟨c0, c1⟩ := hcell
      have b0 := HSL.out k
      have LI := Lib.hid (HLI.out k h)
      have AP := Lib.hid (fun j => HAP.out k j h)
      have ST := Lib.hid (HST.out k h F.out)
      have SS := Lib.hid S
      have OO := Lib.hid O
      clear S O
      generalize slot s.data.toList k = x at *
      obtain ⟨x0, x1⟩ := x
      simp only at b0 c0 c1
      have B8 := Lib.hid (Blk.new wr 81 #[.int .i64 x0, .int .i64 x1])
      have S8 := Lib.hid (SS.out.alloc (.cells #[.int .i64 x0, .int .i64 x1] 81))
      have O8 := Lib.hid (OO.out.alloc OO.out.size (.cells #[.int .i64 x0, .int .i64 x1] 81))
      have hx : heap ≤ x0 ∧ x0 + x1 ≤ 232 ∨ (heap ≤ x0 ∧ 232 < x0 + x1) ∨ x0 < heap := by omega
      rcases hx with ⟨g1, g2⟩ | ⟨g1, g2⟩ | g1
      · go_wp2_with fail
        generalize wr.alloc (.cells #[.int .i64 x0, .int .i64 x1] 81) = W at *
        generalize wr.heap.size = z at *
        go_loopw [52] (fun jv w4 => ∃ j : Nat, j ≤ k ∧ jv = .int .i64 j ∧ Slc w4 81 2 (.slice (some ⟨g, 0, none⟩) n c) n (sc (slots s.data.toList)) ∧ Blk w4 z 81 #[.int .i64 x0, .int .i64 x1] ∧ Below w.heap.size w w4 ∧ Hid (∀ i, i < j → apart (x0, x1) (slot s.data.toList i) = true)) (fun jv _ => k - (intOf jv).toNat)
        case atStart => exact ⟨0, Nat.zero_le _, rfl, S8.out, B8.out, O8.out, Lib.hid fun i hi => absurd hi (Nat.not_lt_zero i)⟩
        case round =>
          obtain ⟨j, hj, rfl, S9, B9, O9, HJ⟩ := hrel
          by_cases hjk : j < k
          · have hcell := slot_cells S9 j (by rw [HN.out]; omega)
            rw [slots_getElem] at hcell
            obtain ⟨d0, d1⟩ := hcell
            have b2 := HSL.out j
            have hn1 := AP.out j hjk
            have HJS := Lib.hid (show apart (x0, x1) (slot s.data.toList j) = true → ∀ i, i < j + 1 → apart (x0, x1) (slot s.data.toList i) = true from fun e i hi => by
              rcases Nat.lt_or_ge i j with h | h
              · exact HJ.out i h
              · obtain rfl : i = j := by omega
                exact e)
            have HN1 := Lib.hid hn1
            have z0 := B9.cell_some (i := 0) rfl
            have z1 := B9.cell_some (i := 1) rfl
            have zl := B9.lt
            have SS9 := Lib.hid S9
            have BB9 := Lib.hid B9
            have OO9 := Lib.hid O9
            clear S9 B9 O9 hn1 HJ
            generalize slot s.data.toList j = y at *
            obtain ⟨y0, y1⟩ := y
            simp only at b2 d0 d1
            have KA := Lib.hid (fun w' => apart_any (x0, x1) (y0, y1) w' (by show x0 + x1 ≤ 1000000; omega) (by show y0 + y1 ≤ 1000000; omega))
            simp only at KA
            go_wp2_with fail
            refine (KA.out _).mono ?_
            rintro e w5 ⟨rfl, hb5⟩
            have hb5 := Lib.hid (((Below.refl wr.heap.size wr).alloc (Nat.le_refl _) (.cells #[.int .i64 y0, .int .i64 y1] 81)).trans (hb5.mono (by simp)))
            cases ha : apart (x0, x1) (y0, y1)
            · have hq := HN1.out ha
              go_wp2_with fail
              go_ret
              exact ⟨by first | rfl | (rw [hq]; rfl), bstep OO9.out hb5.out⟩
            · have HA := Lib.hid ha
              clear ha
              go_wp2_with fail
              go_roundw
              case rel => exact ⟨j + 1, by omega, by go_num, SS9.out.below hb5.out, BB9.out.below hb5.out BB9.out.lt, bstep OO9.out hb5.out, Lib.hid (HJS.out HA.out)⟩
              case measure => simp [intOf]; omega
          · have SS9 := Lib.hid S9
            have OO9 := Lib.hid O9
            have hjk2 := Lib.hid (show j = k by omega)
            clear S9 B9 O9
            go_wp2_with fail
            go_roundw
            case rel => exact ⟨k + 1, by omega, by go_num, SS9.out, OO9.out, Lib.hid (ST.out ⟨g1, g2⟩ (hjk2.out ▸ HJ.out))⟩
            case measure => simp [intOf]; omega
      · have hq := LI.out (by omega)
        go_wp2_with fail
        go_ret
        exact ⟨by first | rfl | (rw [hq]; rfl), O8.out⟩
      · have hq := LI.out (by omega)
        go_wp2_with fail
        go_ret
        exact ⟨by first | rfl | (rw [hq]; rfl), O8.out⟩
    · have hkn : k = n := by omega
      have H2 := Lib.hid hkn
      have OO := Lib.hid O
      have SS := Lib.hid S
      clear hkn S O
      go_wp2_with fail
      go_ret
      refine ⟨?_, OO.out⟩
      have hf := F.out
      rw [H2.out, HAL.out] at hf
      rw [HOK.out hf]
      rfl
set_option maxRecDepth 100000 in
set_option maxHeartbeats 1000000 in
theorem check_any (s : ByteArray) (w : World) (hs : s.size ≤ 1000000) :
    Calls Try.prog 41 #[.string s] w fun e w' => e = .returned (.int .i64 (checkF s.data.toList)) ∧ Below w.heap.size w w' := by
  by_cases hl : s.size = 232
  · by_cases hg : at2 s.data.toList 2 ≤ 232 ∧ 4 + 4 * at2 s.data.toList 0 ≤ at2 s.data.toList 2
    · exact check_loop s w hl hg.1 hg.2
    · have hL : s.data.toList.length = 232 := by simpa using hl
      have e1 : checkF s.data.toList = 14 := check_bad hL fun S => hg ⟨S.heap, S.head⟩
      rw [e1]
      have K0 := Lib.hid (fun w' => two_any s 0 w' (by omega) (by omega) (by omega))
      have K2 := Lib.hid (fun w' => two_any s 2 w' (by omega) (by omega) (by omega))
      simp only [show (0 : Int).toNat = 0 from rfl, show (2 : Int).toNat = 2 from rfl] at K0 K2
      have b0 := at2_lt s.data.toList 0
      generalize at2 s.data.toList 0 = n at *
      generalize at2 s.data.toList 2 = heap at *
      have hsb : ((s.size : Int) == 232) = true := by simp; omega
      have hx : 232 < heap ∨ (heap ≤ 232 ∧ heap < 4 + 4 * n) := by omega
      clear hl hg e1 hL
      rcases hx with h1 | ⟨h1, h2⟩
      all_goals
        go_enter Try.func41, Try.ntmps41
        go_wp2_with fail
        refine (K0.out _).mono ?_
        rintro e w1 ⟨rfl, hb1⟩
        go_wp2_with fail
        refine (K2.out _).mono ?_
        rintro e w2 ⟨rfl, hb2⟩
        have O := Lib.hid (bstep hb1 hb2)
        clear hb1 hb2
        go_wp2_with fail
        go_ret
        exact ⟨rfl, O.out⟩
  · have e1 : checkF s.data.toList = 6 := by unfold checkF; rw [if_neg (by simpa using hl)]
    rw [e1]
    have hsb : ((s.size : Int) == 232) = false := by simp; omega
    clear e1 hl
    go_enter Try.func41, Try.ntmps41
    go_wp2_with fail
    go_ret
    exact ⟨rfl, Below.refl _ _⟩
end Go.Proofs.Yticehnnbjbliaab.Sl
