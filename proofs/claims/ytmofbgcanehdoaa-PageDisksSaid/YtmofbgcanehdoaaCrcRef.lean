/- the reference of layer 3 by its contracts. -/
import Derived.Test.YtmofbgcanehdoaaCrcLay
import Derived.Test.YtmofbgcanehdoaaCrcRefMath
import Derived.Deep.QuietTactic
import Derived.BigQuiet
namespace Go.Proofs.Ytmofbgcanehdoaa.Crc
open Go.RowKit
set_option maxHeartbeats 400000 in
theorem bit_any (s : ByteArray) (k : Nat) (w : World) (hs : s.size ≤ 100000000) (hk : k < 8 * s.size) :
    Calls Try.prog 61 #[.string s, .int .i64 k] w fun e w' => e = .returned (.int .u32 (bitAt s.data.toList k : Nat)) ∧ w = w' := by
  have h8 : k / 8 < s.size := by omega
  go_enter Try.func61, Try.ntmps61
  go_wp2
  go_ret
  refine ⟨?_, rfl⟩
  have e : s.data.toList.getD (k / 8) 0 = s[k / 8] := by
    simp [List.getD, List.getElem?_eq_getElem (show k / 8 < s.data.toList.length by simpa using h8)]; rfl
  have hb : s[k / 8].toNat < 256 := by have := s[k / 8].toNat_lt; omega
  show Ending.returned (.int .u32 ((s[k / 8].toNat : Int) / 2 ^ (k % 8) % 4294967296 % 2)) = _
  have e2 : ((s[k / 8].toNat : Int) / 2 ^ (k % 8) % 4294967296 % 2) = ((s[k / 8].toNat / 2 ^ (k % 8) % 4294967296 % 2 : Nat) : Int) := by simp
  rw [e2]
  unfold bitAt
  rw [e, Nat.mod_eq_of_lt (show s[k / 8].toNat / 2 ^ (k % 8) < 4294967296 from Nat.lt_of_le_of_lt (Nat.div_le_self _ _) (by omega))]
set_option maxHeartbeats 400000 in
theorem rsum_any (s : ByteArray) (w : World) (hs : s.size ≤ 100000000) :
    Calls Try.prog 55 #[.string s] w fun e w' => e = .returned (.int .u32 (sumF s.data.toList : Nat)) ∧ w = w' := by
  have hall := Lib.hid (refReg_all s.data.toList)
  go_enter Try.func55, Try.ntmps55
  go_wp2
  go_loop [3, 4, 5] (fun reg i _ => ∃ k : Nat, k ≤ 8 * s.size ∧ i = .int .i64 k ∧ reg = .int .u32 (refReg s.data.toList k : Nat)) (fun _ i _ => 8 * s.size - (intOf i).toNat)
  case atStart => exact ⟨0, by omega, rfl, rfl⟩
  case round =>
    obtain ⟨k, hk, rfl, rfl⟩ := hrel
    have hlt := refReg_lt s.data.toList k
    by_cases h : k < 8 * s.size
    · have HS := Lib.hid (show refReg s.data.toList (k + 1) = bitStep (refReg s.data.toList k) (bitAt s.data.toList k) from rfl)
      generalize refReg s.data.toList k = R at *
      go_wp2_with (go_at_call 61; refine (bit_any _ _ _ hs h).mono ?_; rintro e w1 ⟨rfl, rfl⟩)
      all_goals go_round
      all_goals try (case measure => simp [intOf]; omega)
      · have ht : ((R : Int) % 2 != (bitAt s.data.toList k : Int)) = true := by assumption
        have ht2 : ¬ R % 2 = bitAt s.data.toList k := by intro e; rw [← e] at ht; simp at ht
        refine ⟨k + 1, by omega, by go_num, ?_⟩
        have := u32_xor_nat (R / 2) 2197175160 (by omega) (by omega)
        rw [HS.out, bitStep, if_neg ht2, ← show bits .xor .u32 ((R : Int) / 2) 2197175160 = ((R / 2 ^^^ poly : Nat) : Int) from this]
      · have ht : ((R : Int) % 2 != (bitAt s.data.toList k : Int)) = false := by assumption
        have ht2 : R % 2 = bitAt s.data.toList k := by
          simp at ht; omega
        refine ⟨k + 1, by omega, by go_num, ?_⟩
        rw [HS.out, bitStep, if_pos ht2]; rfl
    · go_wp2
      go_ret
      refine ⟨?_, rfl⟩
      have hl : s.data.toList.length = s.size := by simp
      have hk8 : k = 8 * s.size := by omega
      have e := hall.out
      rw [hl, ← hk8] at e
      show Ending.returned (.int .u32 (4294967295 - (refReg s.data.toList k : Int))) = _
      rw [← e]
      congr 2
      omega
set_option maxHeartbeats 400000 in
theorem rlay_any (s : ByteArray) (w : World) (hs : s.size ≤ 100000000) :
    Calls Try.prog 36 #[.string s] w fun e w' => e = .returned (.string ⟨(layF s.data.toList).toArray⟩) ∧ Below w.heap.size w w' := by
  go_enter Try.func36, Try.ntmps36
  go_wp2_with (first | (go_at_call 55; refine (rsum_any _ _ hs).mono ?_; rintro e w1 ⟨rfl, rfl⟩))
  have hN := sumF_lt s.data.toList
  have HL := Lib.hid (show layF s.data.toList = fourL (sumF s.data.toList) ++ s.data.toList from rfl)
  generalize sumF s.data.toList = N at *
  have e16 : (N : Int) / 16777216 % 4294967296 % 256 = (N : Int) / 16777216 % 256 := by omega
  rw [e16]
  clear e16
  have B3 : Blk (w.alloc (.cells (fourV N).toArray 5)) w.heap.size 5 (bvs (fourL N)).toArray := by
    rw [fourV_eq]; exact Blk.new _ _ _
  have O3 : Below w.heap.size w (w.alloc (.cells (fourV N).toArray 5)) := (Below.refl _ _).alloc (Nat.le_refl _) _
  change Oper.upon _ _ _ _ _ ((Sem.run _ _ (w.alloc (.cells (fourV N).toArray 5))).andThen _)
  generalize (w.alloc (.cells (fourV N).toArray 5)) = W at B3 O3 ⊢
  rw [run_string_of (P := Try.prog) W 62 9 5 Try.underlying62 Try.underlying5 Try.underlying9 ⟨w.heap.size, 0, none⟩ 4 4 (fourL N) rfl (cells_at B3 0 (bvs (fourL N)) (by simp))]
  have h4 : (fourL N).length ≤ 4 := Nat.le_refl 4
  go_wp2
  go_ret
  refine ⟨?_, O3⟩
  show Ending.returned (.string (⟨(fourL N).toArray⟩ ++ s)) = _
  rw [HL.out, string_append_list]
end Go.Proofs.Ytmofbgcanehdoaa.Crc
