/- the document's slots by its contracts: All, Room, Same. -/
import Derived.Test.YticehnnbjbliaabSlRef2
namespace Go.Proofs.Yticehnnbjbliaab.Sl
open Go.RowKit
attribute [local go_sem ↓] exec_app

/-- a record's text, of a slice of texts -/
theorem str_cell {w : World} {A : Option Addr} {n c : Nat} {l : List (List UInt8)} (S : Slc w 9 1 (.slice A n c) n (strs l)) (k : Nat) (hk : k < l.length) : ∃ g, A = some ⟨g, 0, none⟩ ∧ w.cell? ⟨g, k, none⟩ = some (.string ⟨l[k].toArray⟩) := by
  have hl := S.1
  rw [strs_length] at hl
  obtain ⟨g, cap, rest, hv, B, _, _⟩ := S.form (by omega) (by omega)
  simp only [Value.slice.injEq, true_and] at hv
  obtain ⟨rfl, rfl⟩ := hv
  exact ⟨g, rfl, B.cell_some (by rw [List.getElem?_toArray, List.getElem?_append_left (by rw [strs_length]; exact hk)]; simp [strs, List.getElem?_eq_getElem hk])⟩
theorem size_of_list (l : List UInt8) : (⟨l.toArray⟩ : ByteArray).size = l.length := by
  show l.toArray.size = l.length
  simp
set_option maxRecDepth 100000 in
set_option maxHeartbeats 1000000 in
theorem same_any {w : World} {va vb : Value} {n : Nat} {l : List (List UInt8)} (S : Slc w 9 1 va n (strs l)) (T : Slc w 9 1 vb n (strs l)) (hn : n ≤ 1000000) :
    Calls Try.prog 16 #[va, vb] w fun e w' => e = .returned (.bool true) ∧ Below w.heap.size w w' := by
  obtain ⟨A, c, rfl⟩ := slc_val S
  obtain ⟨A', c', rfl⟩ := slc_val T
  have hl := S.1
  rw [strs_length] at hl
  have HL := Lib.hid (show l.length = n by omega)
  clear hl
  have SS := Lib.hid S
  have TT := Lib.hid T
  clear S T
  go_enter Try.func16, Try.ntmps16
  go_wp2_with fail
  go_loopw [5] (fun iv wr => ∃ (k : Nat), k ≤ n ∧ iv = .int .i64 k ∧ Below w.heap.size w wr) (fun iv _ => n - (intOf iv).toNat)
  case atStart => exact ⟨0, Nat.zero_le _, rfl, Below.refl _ _⟩
  case round =>
    obtain ⟨k, hk, rfl, O⟩ := hrel
    have OO := Lib.hid O
    clear O
    by_cases h : k < n
    · have hkl : k < l.length := by rw [HL.out]; exact h
      obtain ⟨g, rfl, c0⟩ := str_cell (SS.out.below OO.out) k hkl
      obtain ⟨g', rfl, c1⟩ := str_cell (TT.out.below OO.out) k hkl
      generalize (⟨l[k].toArray⟩ : ByteArray) = R at *
      clear hkl
      have i0 : (0 : Int) ≤ (k : Int) := by omega
      have i1 : (k : Int) < (n : Int) := by omega
      go_wp2_with fail
      go_quiet (fail)
      go_wp2_with fail
      go_roundw
      case rel => exact ⟨k + 1, by omega, by go_num, Below_drewN OO.out _⟩
      case measure => simp [intOf]; omega
    · go_wp2_with fail
      go_ret
      exact ⟨rfl, OO.out⟩
set_option maxRecDepth 100000 in
set_option maxHeartbeats 2000000 in
theorem rall_any (s : ByteArray) (w : World) (hS : Sound s.data.toList) :
    Calls Try.prog 17 #[.string s] w fun e w' => ∃ v, e = .returned v ∧ Slc w' 9 1 v (at2 s.data.toList 0) (strs (recs s.data.toList)) ∧ Below w.heap.size w w' ∧ (∀ g ∈ ownB v, w.heap.size ≤ g) := by
  have hl2 : s.size = 232 := by have := hS.len; simpa using this
  have h4 := hS.head
  have h5 := hS.heap
  have hs1 : s.size ≤ 232 := by omega
  have HT := Lib.hid (recs_take s.data.toList)
  have HF := Lib.hid (fun k (hk : k < at2 s.data.toList 0) => hS.fit.lies _ (List.mem_of_getElem? (slots_get s.data.toList k hk)))
  have HA := Lib.hid (show (recs s.data.toList).take (at2 s.data.toList 0) = recs s.data.toList from List.take_of_length_le (by rw [recs_length]; exact Nat.le_refl _))
  have K0 := Lib.hid (fun w' => num_any s 0 w' (by omega) (by omega) (by omega))
  simp only [show (0 : Int).toNat = 0 from rfl] at K0
  have KN := Lib.hid (fun (k : Nat) (w' : World) (hk : k < at2 s.data.toList 0) => num_any s (4 + 4 * (k : Int)) w' (by omega) (by omega) (by omega))
  have KM := Lib.hid (fun (k : Nat) (w' : World) (hk : k < at2 s.data.toList 0) => num_any s (6 + 4 * (k : Int)) w' (by omega) (by omega) (by omega))
  have HS1 := Lib.hid (show ∀ k : Nat, at2 s.data.toList (4 + 4 * (k : Int)).toNat = (slot s.data.toList k).1 from fun k => by rw [show (4 + 4 * (k : Int)).toNat = 4 + 4 * k by omega]; rfl)
  have HS2 := Lib.hid (show ∀ k : Nat, at2 s.data.toList (6 + 4 * (k : Int)).toNat = (slot s.data.toList k).2 from fun k => by rw [show (6 + 4 * (k : Int)).toNat = 6 + 4 * k by omega]; rfl)
  have HX := Lib.hid (show ∀ a b : Nat, (⟨(rec1 s.data.toList (a, b)).toArray⟩ : ByteArray) = s.extract a (a + b) from fun a b => (extract_list s a b).symm)
  have HSZ := Lib.hid hl2
  clear hS hl2
  generalize hn : at2 s.data.toList 0 = n at *
  have HN0 := Lib.hid hn
  clear hn
  go_enter Try.func17, Try.ntmps17
  go_wp2_with fail
  go_loopw [3, 4] (fun v iv wr => ∃ k : Nat, k ≤ n ∧ iv = .int .i64 k ∧ Slc wr 9 1 v k (strs ((recs s.data.toList).take k)) ∧ Below w.heap.size w wr ∧ Hid (∀ g ∈ ownB v, w.heap.size ≤ g)) (fun _ iv _ => n - (intOf iv).toNat)
  case atStart => exact ⟨0, Nat.zero_le _, rfl, by rw [List.take_zero]; exact Slc.nil _ _ _, Below.refl _ _, Lib.hid (by simp [ownB])⟩
  case round =>
    obtain ⟨k, hk, rfl, T, O, F⟩ := hrel
    obtain ⟨TA, tc, rfl⟩ := slc_val T
    have TT := Lib.hid T
    have OO := Lib.hid O
    clear T O
    go_wp2_with fail
    refine (K0.out _).mono ?_
    rintro e w1 ⟨rfl, hb1⟩
    have T1 := Lib.hid (TT.out.below hb1)
    have O1 := Lib.hid (bstep OO.out hb1)
    clear hb1 TT OO
    by_cases h : k < n
    · have hf := HF.out k h
      have HTk := Lib.hid (HT.out k (HN0.out ▸ h))
      have K4 := fun w' => KN.out k w' h
      have K6 := fun w' => KM.out k w' h
      rw [HS1.out] at K4
      rw [HS2.out] at K6
      have K4 := Lib.hid K4
      have K6 := Lib.hid K6
      have hsz := HSZ.out
      have hs2 : 232 ≤ s.size := by omega
      clear hsz
      generalize slot s.data.toList k = x at *
      obtain ⟨x0, x1⟩ := x
      simp only at hf K4 K6
      go_wp2_with fail
      refine (K4.out _).mono ?_
      rintro e w4 ⟨rfl, hb4⟩
      have T4 := Lib.hid (T1.out.below hb4)
      have O4 := Lib.hid (bstep O1.out hb4)
      clear hb4 T1 O1
      go_wp2_with fail
      refine (K6.out _).mono ?_
      rintro e w5 ⟨rfl, hb5⟩
      have T5 := T4.out.below hb5
      have O5 := Lib.hid (bstep O4.out hb5)
      clear hb5 T4 O4
      obtain ⟨v', w6, ea, T6, o6, F6⟩ := append_one (P := Try.prog) T5 34 34 (.string .empty) 16 Try.underlying34 info_string rfl (.string (s.extract x0 (x0 + x1))) rfl (by unfold maxLen; omega) (by omega)
      rw [← HX.out, strs_snoc, ← HTk.out] at T6
      have F7 := Lib.hid (show ∀ g ∈ ownB v', w.heap.size ≤ g from fun g hg => (F6 g hg).elim (F.out g) (fun h => Nat.le_trans O5.out.size h))
      have O6 := Lib.hid (O5.out.trans (o6.below_of O5.out.size F.out))
      obtain ⟨VA, vc, rfl⟩ := slc_val T6
      have T6 := Lib.hid T6
      clear T5 o6 F6
      go_wp2_with fail
      go_roundw
      case rel => exact ⟨k + 1, by omega, by go_num, T6.out, O6.out, F7⟩
      case measure => simp [intOf]; omega
    · have hkn := Lib.hid (show k = n by omega)
      go_wp2_with fail
      go_ret
      refine ⟨_, rfl, ?_, O1.out, F.out⟩
      have h1 := T1.out
      cases hkn.out
      rw [HA.out] at h1
      try rw [HN0.out]
      exact h1
def roomRTo (l : List (List UInt8)) (k : Nat) : Int := 228 - ((((l.take k).map fun r => 4 + r.length).sum : Nat) : Int)
theorem roomRTo_succ (l : List (List UInt8)) (k : Nat) (h : k < l.length) : roomRTo l (k + 1) = roomRTo l k - 4 - (l[k].length : Int) := by
  unfold roomRTo
  rw [List.take_succ_eq_append_getElem h, List.map_append, List.sum_append]
  simp; omega
theorem roomRTo_lo (l : List (List UInt8)) (k : Nat) (h : k ≤ l.length) (m : Nat) (hm : ∀ r ∈ l, r.length ≤ m) : 228 - (4 + m : Nat) * (k : Int) ≤ roomRTo l k := by
  induction k with
  | zero => simp [roomRTo]
  | succ k ih =>
    have := ih (by omega)
    rw [roomRTo_succ l k (by omega)]
    have := hm _ (List.getElem_mem (show k < l.length by omega))
    rw [Int.natCast_add k 1, Int.mul_add]
    simp only [Int.natCast_add, Int.natCast_one, Int.mul_one] at *
    omega
set_option maxRecDepth 100000 in
set_option maxHeartbeats 1000000 in
theorem rroom_any {w : World} {v : Value} {n : Nat} {l : List (List UInt8)} (S : Slc w 9 1 v n (strs l)) (hn : n ≤ 1000000) (hm : ∀ r ∈ l, r.length ≤ 1000000) :
    Calls Try.prog 14 #[v] w fun e w' => e = .returned (.int .i64 (roomR l)) ∧ w = w' := by
  obtain ⟨A, c, rfl⟩ := slc_val S
  have hl := S.1
  rw [strs_length] at hl
  have HL := Lib.hid (show l.length = n by omega)
  have HST := Lib.hid (roomRTo_succ l)
  have HB := Lib.hid (show ∀ k, k ≤ n → -1000004000000 ≤ roomRTo l k ∧ roomRTo l k ≤ 228 from fun k hk => ⟨by
    have := roomRTo_lo l k (by omega) 1000000 hm
    have h2 : ((4 + 1000000 : Nat) : Int) * (k : Int) ≤ 1000004 * 1000000 := by
      have : (k : Int) ≤ 1000000 := by omega
      simp only [Nat.reduceAdd]
      omega
    omega, by unfold roomRTo; omega⟩)
  have HE := Lib.hid (show roomRTo l n = roomR l from by unfold roomRTo roomR; rw [List.take_of_length_le (by omega)])
  have HR := Lib.hid (show ∀ k (h : k < l.length), l[k].length ≤ 1000000 from fun k h => hm _ (List.getElem_mem h))
  have SS := Lib.hid S
  clear hl S hm
  go_enter Try.func14, Try.ntmps14
  go_wp2_with fail
  go_loop [3, 4] (fun rv iv => ∃ k : Nat, k ≤ n ∧ iv = .int .i64 k ∧ rv = .int .i64 (roomRTo l k)) (fun _ iv => n - (intOf iv).toNat)
  case atStart => exact ⟨0, Nat.zero_le _, rfl, rfl⟩
  case round =>
    obtain ⟨k, hk, rfl, rfl⟩ := hrel
    obtain ⟨b1, b2⟩ := HB.out k hk
    by_cases h : k < n
    · have hkl : k < l.length := by rw [HL.out]; exact h
      obtain ⟨g, rfl, c0⟩ := str_cell SS.out k hkl
      have HS := Lib.hid (HST.out k hkl)
      have hr := HR.out k hkl
      have hz := size_of_list l[k]
      have HZ := Lib.hid hz
      have hr2 : (⟨l[k].toArray⟩ : ByteArray).size ≤ 1000000 := by omega
      rw [← HZ.out] at HS
      clear hz hr
      generalize (⟨l[k].toArray⟩ : ByteArray) = R at *
      clear HZ hkl
      generalize roomRTo l k = r at *
      go_wp2
      go_round
      case rel => exact ⟨k + 1, by omega, by go_num, by rw [HS.out]⟩
      case measure => simp [intOf]; omega
    · have hkn := Lib.hid (show k = n by omega)
      go_wp2
      go_ret
      refine ⟨?_, rfl⟩
      rw [← HE.out, ← hkn.out]
      rfl
end Go.Proofs.Yticehnnbjbliaab.Sl
