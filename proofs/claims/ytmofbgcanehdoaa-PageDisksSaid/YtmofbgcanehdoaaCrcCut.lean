/- crc: Cut by its contracts. -/
import Derived.Test.YtmofbgcanehdoaaCrcLay
import Derived.Deep.QuietTactic
import Derived.BigQuiet
namespace Go.Proofs.Ytmofbgcanehdoaa.Crc
open Go.RowKit

set_option maxHeartbeats 400000 in
theorem cut_short (s : ByteArray) (w : World) (hs : s.size < 4) :
    Calls Try.prog 38 #[.string s] w fun e w' => e = .returned (.tuple #[.string ⟨#[]⟩, .int .i64 5]) ∧ Below w.heap.size w w' := by
  go_enter Try.func38, Try.ntmps38
  go_wp2
  go_ret2
  exact ⟨rfl, Below.refl _ _⟩

theorem extract_tail (s : ByteArray) : (s.extract 4 s.size).data.toList = s.data.toList.drop 4 := by
  rw [ByteArray.data_extract, Array.toList_extract, List.extract_eq_take_drop, List.take_of_length_le]
  simp
theorem extract_head (s : ByteArray) : (s.extract 0 4).data.toList = s.data.toList.take 4 := by
  rw [ByteArray.data_extract, Array.toList_extract, List.extract_eq_take_drop]
  simp

set_option maxHeartbeats 400000 in
theorem cut_ok (s : ByteArray) (w : World) (h4 : 4 ≤ s.size) (hs : s.size ≤ maxLen) (hc : fourL (sumF (s.data.toList.drop 4)) = s.data.toList.take 4) :
    Calls Try.prog 38 #[.string s] w fun e w' => e = .returned (.tuple #[.string (s.extract 4 s.size), .int .i64 0]) ∧ Below w.heap.size w w' := by
  unfold maxLen at hs
  have hN : sumF (List.take (s.size - 4) (List.drop 4 s.data.toList)) < 4294967296 := sumF_lt _
  obtain ⟨N, eN⟩ : ∃ N, sumF (List.take (s.size - 4) (List.drop 4 s.data.toList)) = N := ⟨_, rfl⟩
  have HC := Lib.hid (show fourL N = s.data.toList.take 4 from by
    rw [← hc, ← eN, List.take_of_length_le (by simp)])
  clear hc
  rw [eN] at hN
  go_enter Try.func38, Try.ntmps38
  go_wp2_with (first | (go_at_call 54; refine (sum_any _ _ (by simp; unfold maxLen; omega)).mono ?_; rintro e w1 ⟨rfl, hb1⟩) | (go_at_call 53; refine (four_any _ _ hN).mono ?_; rintro e w2 ⟨rfl, hb2⟩))
  clear eN
  have B3 : Blk (w2.alloc (.cells (fourV N).toArray 82)) w2.heap.size 82 (bvs (s.data.toList.take 4)).toArray := by
    rw [fourV_eq, HC.out]; exact Blk.new _ _ _
  have O3 : Below w.heap.size w (w2.alloc (.cells (fourV N).toArray 82)) :=
    (hb1.trans (hb2.mono hb1.size)).alloc (Nat.le_trans hb1.size hb2.size) _
  change Code.wp _ _ _ _ (w2.alloc (.cells (fourV N).toArray 82))
  generalize (w2.alloc (.cells (fourV N).toArray 82)) = W at B3 O3 ⊢
  have hst := fun n => run_string_of (P := Try.prog) (W.drewN n) 62 9 5 Try.underlying62 Try.underlying5 Try.underlying9 ⟨w2.heap.size, 0, none⟩ 4 4 (s.data.toList.take 4) (by simp; omega) (cells_at (B3.drewN n) 0 (bvs (s.data.toList.take 4)) (by simp))
  go_quiet (fail)
  have hq : (!List.take 4 s.data.toList == (s.extract 0 4).toList) = false := by rw [bytes_toList, extract_head]; simp
  rw [hq]
  go_wp2
  go_ret2
  exact ⟨rfl, Below_drewN O3 _⟩

set_option maxHeartbeats 400000 in
theorem cut_corrupt (s : ByteArray) (w : World) (h4 : 4 ≤ s.size) (hs : s.size ≤ maxLen) (hc : fourL (sumF (s.data.toList.drop 4)) ≠ s.data.toList.take 4) :
    Calls Try.prog 38 #[.string s] w fun e w' => e = .returned (.tuple #[.string ⟨#[]⟩, .int .i64 14]) ∧ Below w.heap.size w w' := by
  unfold maxLen at hs
  have hN : sumF (List.take (s.size - 4) (List.drop 4 s.data.toList)) < 4294967296 := sumF_lt _
  obtain ⟨N, eN⟩ : ∃ N, sumF (List.take (s.size - 4) (List.drop 4 s.data.toList)) = N := ⟨_, rfl⟩
  have HC := Lib.hid (show fourL N ≠ s.data.toList.take 4 from by
    intro e; apply hc; rw [← e, ← eN, List.take_of_length_le (by simp)])
  clear hc
  rw [eN] at hN
  go_enter Try.func38, Try.ntmps38
  go_wp2_with (first | (go_at_call 54; refine (sum_any _ _ (by simp; unfold maxLen; omega)).mono ?_; rintro e w1 ⟨rfl, hb1⟩) | (go_at_call 53; refine (four_any _ _ hN).mono ?_; rintro e w2 ⟨rfl, hb2⟩))
  clear eN
  have B3 : Blk (w2.alloc (.cells (fourV N).toArray 82)) w2.heap.size 82 (bvs (fourL N)).toArray := by
    rw [fourV_eq]; exact Blk.new _ _ _
  have O3 : Below w.heap.size w (w2.alloc (.cells (fourV N).toArray 82)) :=
    (hb1.trans (hb2.mono hb1.size)).alloc (Nat.le_trans hb1.size hb2.size) _
  change Code.wp _ _ _ _ (w2.alloc (.cells (fourV N).toArray 82))
  generalize (w2.alloc (.cells (fourV N).toArray 82)) = W at B3 O3 ⊢
  have hst := fun n => run_string_of (P := Try.prog) (W.drewN n) 62 9 5 Try.underlying62 Try.underlying5 Try.underlying9 ⟨w2.heap.size, 0, none⟩ 4 4 (fourL N) rfl (cells_at (B3.drewN n) 0 (bvs (fourL N)) (by simp))
  go_quiet (fail)
  have hq : (!fourL N == (s.extract 0 4).toList) = true := by rw [bytes_toList, extract_head]; simpa using HC.out
  rw [hq]
  go_wp2
  go_ret2
  exact ⟨rfl, Below_drewN O3 _⟩
end Go.Proofs.Ytmofbgcanehdoaa.Crc
