/- slots by its contracts: Len, Room, record, Get, All. -/
import Derived.Test.YticehnnbjbliaabSl3
namespace Go.Proofs.Yticehnnbjbliaab.Sl
open Go.RowKit

def lenF (b : List UInt8) : Int := if checkF b = 0 then (at2 b 0 : Int) else 0
def roomTo (l : List Slot) (k : Nat) : Int := 228 - ((((l.take k).map fun x => 4 + x.2).sum : Nat) : Int)
theorem roomTo_succ (l : List Slot) (k : Nat) (h : k < l.length) : roomTo l (k + 1) = roomTo l k - (4 + (l[k].2 : Int)) := by
  unfold roomTo
  rw [List.take_succ_eq_append_getElem h, List.map_append, List.sum_append]
  simp; omega
theorem roomTo_all (b : List UInt8) : roomTo (slots b) (slots b).length = roomF b := by unfold roomTo roomF; rw [List.take_length]
def roomG (b : List UInt8) : Int := if checkF b = 0 then roomF b else 0
set_option maxRecDepth 100000 in
set_option maxHeartbeats 1000000 in
theorem room_any (s : ByteArray) (w : World) (hs : s.size ≤ 1000000) :
    Calls Try.prog 46 #[.string s] w fun e w' => e = .returned (.int .i64 (roomG s.data.toList)) ∧ Below w.heap.size w w' := by
  have KC := Lib.hid (check_any s w hs)
  by_cases h : checkF s.data.toList = 0
  · have e1 : roomG s.data.toList = roomF s.data.toList := by unfold roomG; rw [if_pos h]
    have hS := (checkF_ok _).1 h
    have hl2 : s.size = 232 := by have := hS.len; simpa using this
    have h4 := hS.head
    have h5 := hS.heap
    rw [e1]
    rw [h] at KC
    have KL := Lib.hid (fun w' => list_any s w' (by omega) hs)
    have HN := Lib.hid (slots_length s.data.toList)
    have HA := Lib.hid (roomTo_all s.data.toList)
    have HX := Lib.hid (show ∀ k, (roomTo (slots s.data.toList) k ≤ 228 ∧ ∀ h : k < (slots s.data.toList).length, (slots s.data.toList)[k].2 < 65536) from fun k => ⟨by unfold roomTo; omega, fun h => by rw [slots_getElem]; exact at2_lt _ _⟩)
    have HLO := Lib.hid (show ∀ k, k ≤ at2 s.data.toList 0 → -1000000 ≤ roomTo (slots s.data.toList) k from fun k hk => by
      have hsum := lenSum_le _ _ hS.fit hS.heap
      have : ((((slots s.data.toList).take k).map fun x => 4 + x.2).sum) ≤ 4 * (slots s.data.toList).length + lenSum (slots s.data.toList) := by
        generalize slots s.data.toList = l
        unfold lenSum
        induction l generalizing k with
        | nil => simp
        | cons x l ih =>
          cases k with
          | zero => simp
          | succ k =>
            have := ih k
            simp only [List.take_succ_cons, List.map_cons, List.sum_cons, List.length_cons]
            omega
      rw [slots_length] at this
      unfold roomTo; omega)
    clear e1 h hS
    generalize roomF s.data.toList = q at *
    generalize at2 s.data.toList 0 = n at *
    go_enter Try.func46, Try.ntmps46
    go_wp2_with fail
    refine KC.out.mono ?_
    rintro e w1 ⟨rfl, hb1⟩
    have hb1 := Lib.hid hb1
    go_wp2_with fail
    refine (KL.out _).mono ?_
    rintro e w3 ⟨v, rfl, S, hb3, fr⟩
    obtain ⟨A, c, rfl⟩ := slc_val S
    have S := Lib.hid S
    have O3 := Lib.hid (bstep hb1.out hb3)
    clear hb3 fr KL hb1
    go_wp2_with fail
    go_loopw [3, 12] (fun rv iv wr => ∃ k : Nat, k ≤ n ∧ iv = .int .i64 k ∧ rv = .int .i64 (roomTo (slots s.data.toList) k) ∧ Slc wr 81 2 (.slice A n c) n (sc (slots s.data.toList)) ∧ Below w.heap.size w wr) (fun _ iv _ => n - (intOf iv).toNat)
    case atStart => exact ⟨0, Nat.zero_le _, rfl, rfl, S.out, O3.out⟩
    case round =>
      obtain ⟨k, hk, rfl, rfl, S, O⟩ := hrel
      have hr1 := (HX.out k).1
      have hr0 := HLO.out k hk
      by_cases h : k < n
      · obtain ⟨g, cap, rest, hv, -, hcap, -⟩ := S.form (by omega) (by omega)
        simp only [Value.slice.injEq, true_and] at hv
        obtain ⟨rfl, rfl⟩ := hv
        have hkl : k < (slots s.data.toList).length := by rw [HN.out]; exact h
        obtain ⟨c0, c1⟩ := slot_cells S k hkl
        have hb := (HX.out k).2 hkl
        have HST := Lib.hid (roomTo_succ _ k hkl)
        generalize (slots s.data.toList)[k] = x at *
        obtain ⟨x0, x1⟩ := x
        simp only at hb c0 c1 HST
        have S8 := Lib.hid (S.alloc (.cells #[.int .i64 x0, .int .i64 x1] 81))
        have O8 := Lib.hid (O.alloc O.size (.cells #[.int .i64 x0, .int .i64 x1] 81))
        clear S O hkl
        generalize roomTo (slots s.data.toList) k = r at *
        go_wp2_with fail
        go_roundw
        case rel => exact ⟨k + 1, by omega, by go_num, by rw [HST.out], S8.out, O8.out⟩
        case measure => simp [intOf]; omega
      · have hkn := Lib.hid (show k = n by omega)
        have OO := Lib.hid O
        clear S O
        go_wp2_with fail
        go_ret
        refine ⟨?_, OO.out⟩
        rw [← HA.out, HN.out, ← hkn.out]
        rfl
  · have e1 : roomG s.data.toList = 0 := by unfold roomG; rw [if_neg h]
    have hb : (checkF s.data.toList == 0) = false := by simpa using h
    rw [e1]
    clear e1 h
    generalize checkF s.data.toList = q at *
    go_enter Try.func46, Try.ntmps46
    go_wp2_with fail
    refine KC.out.mono ?_
    rintro e w1 ⟨rfl, hb1⟩
    have hb1 := Lib.hid hb1
    go_wp2_with fail
    go_ret
    exact ⟨rfl, hb1.out⟩
theorem extract_list (s : ByteArray) (a b : Nat) : s.extract a (a + b) = ⟨((s.data.toList.drop a).take b).toArray⟩ := by
  apply ByteArray.ext
  apply Array.toList_inj.1
  rw [ByteArray.data_extract, Array.toList_extract, List.extract_eq_take_drop]
  simp
set_option maxRecDepth 100000 in
set_option maxHeartbeats 400000 in
theorem record_any (s : ByteArray) (x : Slot) (w : World) (hx : x.1 + x.2 ≤ s.size) (hs : s.size ≤ 1000000) :
    Calls Try.prog 43 #[.string s, .agg #[.int .i64 x.1, .int .i64 x.2]] w fun e w' => e = .returned (.string ⟨(rec1 s.data.toList x).toArray⟩) ∧ Below w.heap.size w w' := by
  obtain ⟨a, b⟩ := x
  simp only at hx
  have HE := Lib.hid (extract_list s a b)
  go_enter Try.func43, Try.ntmps43
  go_wp2
  go_ret
  refine ⟨?_, (Below.refl _ _).alloc (Nat.le_refl _) _⟩
  show Ending.returned (.string (s.extract a (a + b))) = _
  rw [HE.out]; rfl
def getF (b : List UInt8) (i : Int) : List UInt8 × Int := if checkF b = 0 then (if 0 ≤ i ∧ i < (at2 b 0 : Int) then (rec1 b (slot b i.toNat), 0) else ([], 3)) else ([], checkF b)
end Go.Proofs.Yticehnnbjbliaab.Sl
