/- crc: More, Sum, four, Lay, Cut by contracts. -/
import Derived.Test.YtmofbgcanehdoaaCrcTake
import Derived.Test.YtmofbgcanehdoaaKit
namespace Go.Proofs.Ytmofbgcanehdoaa.Crc
open Go.RowKit

theorem not_u32 (r : Nat) (hr : r < 4294967296) : bits BinOp.xor IntKind.u32 IntKind.u32.max (r : Int) = ((4294967295 - r : Nat) : Int) := by
  have h : IntKind.u32.max = ((4294967295 : Nat) : Int) := by rfl
  rw [h, u32_xor_nat _ _ (by omega) hr]
  congr 1
  have h2 := Nat.xor_comm 4294967295 r
  rw [h2]
  have : r ^^^ (2 ^ 32 - 1) = 2 ^ 32 - 1 - r := by
    apply Nat.eq_of_testBit_eq
    intro i
    rw [Nat.testBit_xor, Nat.testBit_two_pow_sub_one]
    have h3 := Nat.testBit_two_pow_sub_succ (x := r) (n := 32) (by omega) i
    rw [show 2 ^ 32 - 1 - r = 2 ^ 32 - (r + 1) from by omega, h3]
    by_cases hi : i < 32
    · simp [hi]
    · simp [hi]
      exact Nat.testBit_lt_two_pow (Nat.lt_of_lt_of_le (show r < 2 ^ 32 by omega) (Nat.pow_le_pow_right (by decide) (by omega)))
  exact this

theorem take_snoc (s : ByteArray) (k : Nat) (h : k < s.size) : s.data.toList.take (k + 1) = s.data.toList.take k ++ [s[k]] := by
  rw [List.take_succ_eq_append_getElem (by simpa using h)]; rfl

set_option maxHeartbeats 400000 in
theorem more_any (r : Nat) (s : ByteArray) (w : World) (hr : r < 4294967296) (hs : s.size ≤ maxLen) :
    Calls Try.prog 60 #[.int .u32 r, .string s] w fun e w' => e = .returned (.int .u32 ((4294967295 - moreF (4294967295 - r) s.data.toList : Nat) : Int)) ∧ Below w.heap.size w w' := by
  have hx := not_u32 r hr
  have hi0 : moreF (4294967295 - r) [] < 4294967296 := by show 4294967295 - r < _; omega
  unfold maxLen at hs
  go_enter Try.func60, Try.ntmps60
  go_wp2
  clear hx
  go_loopw [5, 6, 11] (fun reg _ i wr => ∃ k : Nat, k ≤ s.size ∧ i = .int .i64 k ∧ reg = .int .u32 ((moreF (4294967295 - r) (s.data.toList.take k) : Nat) : Int) ∧ Below w.heap.size w wr) (fun _ _ i _ => s.size - (intOf i).toNat)
  case atStart => exact ⟨0, Nat.zero_le _, rfl, rfl, Below.refl _ _⟩
  case round =>
    obtain ⟨k, hk, rfl, rfl, hb⟩ := hrel
    have hlt := moreF_lt (s.data.toList.take k) hi0
    simp only [moreF_nil] at hlt
    by_cases h : k < s.size
    · have HS := Lib.hid (show moreF (4294967295 - r) (s.data.toList.take (k + 1)) = takeF (moreF (4294967295 - r) (s.data.toList.take k)) s[k].toNat from by rw [take_snoc s k h, moreF_snoc])
      go_wp2_with (go_at_call 62; refine (take_any _ _ _ hlt (by have := s[k].toNat_lt; omega)).mono ?_; rintro e w1 ⟨rfl, hb1⟩)
      go_roundw
      case rel => exact ⟨k + 1, by omega, by go_num, by rw [HS.out], hb.trans (hb1.mono hb.size)⟩
      case measure => simp [intOf]; omega
    · have hx2 := not_u32 _ hlt
      have ht : s.data.toList.take k = s.data.toList := List.take_of_length_le (by simp; omega)
      rw [ht] at hx2
      rw [ht]
      go_wp2
      go_ret
      exact ⟨rfl, hb⟩
set_option maxHeartbeats 400000 in
theorem four_any (n : Nat) (w : World) (hn : n < 4294967296) :
    Calls Try.prog 53 #[.int .u32 n] w fun e w' => e = .returned (.agg #[.int .u8 (n % 256 : Nat), .int .u8 (n / 256 % 256 : Nat), .int .u8 (n / 65536 % 256 : Nat), .int .u8 (n / 16777216 % 256 : Nat)]) ∧ Below w.heap.size w w' := by
  go_enter Try.func53, Try.ntmps53
  go_wp2
  refine wp_loop_rounds 5 ?_
  rw [rounds_succ]
  go_wp2
  rw [rounds_succ]
  go_wp2
  rw [rounds_succ]
  go_wp2
  rw [rounds_succ]
  go_wp2
  rw [rounds_succ]
  go_wp2
  refine bodyPost_ret (v := .agg #[.int .u8 (n % 256 : Nat), .int .u8 (n / 256 % 256 : Nat), .int .u8 (n / 65536 % 256 : Nat), .int .u8 (n / 16777216 % 256 : Nat)]) ?_ rfl ⟨rfl, ?_⟩
  · simp [results, Try.results53, go_sem]
    omega
  · exact ((Below.refl _ _).alloc (Nat.le_refl _) _).alloc (by simp) _

theorem sum_any (s : ByteArray) (w : World) (hs : s.size ≤ maxLen) :
    Calls Try.prog 54 #[.string s] w fun e w' => e = .returned (.int .u32 (sumF s.data.toList : Nat)) ∧ Below w.heap.size w w' := by
  go_enter Try.func54, Try.ntmps54
  go_wp2_with (go_at_call 60; refine (more_any 0 _ _ (by omega) hs).mono ?_; rintro e w1 ⟨rfl, hb1⟩)
  go_ret
  exact ⟨rfl, hb1⟩

end Go.Proofs.Ytmofbgcanehdoaa.Crc
