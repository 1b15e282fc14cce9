/- slots by its contracts: Insert whole, Delete, Of. -/
import Derived.Test.YticehnnbjbliaabSl9
import Derived.Deep.RegionHeld3
import Derived.Deep.DrawnRows
namespace Go.Proofs.Yticehnnbjbliaab.Sl
open Go.RowKit
attribute [local go_sem ↓] Go.wp_at_zero Go.wp_at_succ
attribute [local go_sem ↓] exec_app

set_option maxRecDepth 100000 in
set_option maxHeartbeats 1000000 in
theorem insert_any (s r : ByteArray) (i : Int) (w : World) (hs : s.size ≤ 1000000) (hr : r.size ≤ 9223372036854775807) :
    Calls Try.prog 40 #[.string s, .int .i64 i, .string r] w fun e w' => e = .returned (.tuple #[.string ⟨(insG s.data.toList i r.data.toList).1.toArray⟩, .int .i64 (insG s.data.toList i r.data.toList).2]) ∧ Below w.heap.size w w' := by
  have hrl : r.data.toList.length = r.size := by simp
  have KC := Lib.hid (fun w' => check_any s w' hs)
  by_cases h : checkF s.data.toList = 0
  · have hS := (checkF_ok _).1 h
    have hl2 : s.size = 232 := by have := hS.len; simpa using this
    have h4 := hS.head
    have h5 := hS.heap
    by_cases hi : 0 ≤ i ∧ i ≤ (at2 s.data.toList 0 : Int)
    · by_cases hg : (r.size : Int) ≤ roomF s.data.toList - 4
      · have e1 : insG s.data.toList i r.data.toList = (insF s.data.toList i.toNat r.data.toList, 0) := by unfold insG; rw [if_pos h, if_pos hi, hrl, if_pos hg]
        rw [e1]
        obtain ⟨k, rfl⟩ := Int.eq_ofNat_of_zero_le hi.1
        rw [Int.toNat_natCast]
        exact insert_ok s r k w hS hg (by omega)
      · have e1 : insG s.data.toList i r.data.toList = ([], 11) := by unfold insG; rw [if_pos h, if_pos hi, hrl, if_neg hg]
        rw [e1]
        have hro : roomG s.data.toList = roomF s.data.toList := by unfold roomG; rw [if_pos h]
        have hlo : -1000000 ≤ roomF s.data.toList := by
          rw [roomF_eq hS]
          have := hS.sum
          omega
        have hhi : roomF s.data.toList ≤ 228 := by unfold roomF; omega
        have KL := Lib.hid (fun w' => list_any s w' (by omega) hs)
        have KR := Lib.hid (fun w' => room_any s w' hs)
        rw [hro] at KR
        rw [h] at KC
        have hg1 : roomF s.data.toList - 4 < (r.size : Int) := by omega
        clear e1 h hS hro hg
        generalize roomF s.data.toList = room at *
        generalize at2 s.data.toList 0 = n at *
        obtain ⟨hi1, hi2⟩ := hi
        go_enter Try.func40, Try.ntmps40
        go_wp2_with fail
        refine (KC.out _).mono ?_
        rintro e w1 ⟨rfl, hb1⟩
        have O1 := Lib.hid hb1
        clear hb1
        go_wp2_with fail
        refine (KL.out _).mono ?_
        rintro e w2 ⟨v, rfl, S2, hb2, -⟩
        have O2 := Lib.hid (bstep O1.out hb2)
        obtain ⟨A2, c2, rfl⟩ := slc_val S2
        clear S2 hb2
        go_wp2_with fail
        refine (KR.out _).mono ?_
        rintro e w3 ⟨rfl, hb3⟩
        have O3 := Lib.hid (bstep O2.out hb3)
        clear hb3
        go_wp2_with fail
        go_ret2
        exact ⟨rfl, O3.out⟩
    · have e1 : insG s.data.toList i r.data.toList = ([], 3) := by unfold insG; rw [if_pos h, if_neg hi]
      rw [e1]
      have KL := Lib.hid (fun w' => list_any s w' (by omega) hs)
      rw [h] at KC
      generalize at2 s.data.toList 0 = n at *
      have hx : i < 0 ∨ (¬ i < 0 ∧ (n : Int) < i) := by omega
      clear e1 h hi hS
      rcases hx with h1 | ⟨h1, h2⟩
      all_goals
        go_enter Try.func40, Try.ntmps40
        go_wp2_with fail
        refine (KC.out _).mono ?_
        rintro e w1 ⟨rfl, hb1⟩
        have O1 := Lib.hid hb1
        clear hb1
        go_wp2_with fail
        refine (KL.out _).mono ?_
        rintro e w2 ⟨v, rfl, S2, hb2, -⟩
        have O2 := Lib.hid (bstep O1.out hb2)
        obtain ⟨A2, c2, rfl⟩ := slc_val S2
        clear S2 hb2
        go_wp2_with fail
        go_ret2
        exact ⟨rfl, O2.out⟩
  · have e1 : insG s.data.toList i r.data.toList = ([], checkF s.data.toList) := by unfold insG; rw [if_neg h]
    have hb : (checkF s.data.toList == 0) = false := by simpa using h
    rw [e1]
    clear e1 h
    generalize checkF s.data.toList = q at *
    go_enter Try.func40, Try.ntmps40
    go_wp2_with fail
    refine (KC.out _).mono ?_
    rintro e w1 ⟨rfl, hb1⟩
    have O1 := Lib.hid hb1
    clear hb1
    go_wp2_with fail
    go_ret2
    exact ⟨rfl, O1.out⟩
def delG (b : List UInt8) (i : Int) : List UInt8 × Int :=
  if checkF b = 0 then (if 0 ≤ i ∧ i < (at2 b 0 : Int) then (delF b i.toNat, 0) else ([], 3)) else ([], checkF b)
end Go.Proofs.Yticehnnbjbliaab.Sl
