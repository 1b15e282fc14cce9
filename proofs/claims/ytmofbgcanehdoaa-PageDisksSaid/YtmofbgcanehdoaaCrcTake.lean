/- crc.take: a byte, four bits at a time. -/
import Derived.Test.YtmofbgcanehdoaaLawKit
import Derived.Test.YtmofbgcanehdoaaCrcMath
namespace Go.Proofs.Ytmofbgcanehdoaa.Crc
open Go.RowKit

def tabObj : Obj := .cells #[Value.int IntKind.u32 0, Value.int IntKind.u32 274646895, Value.int IntKind.u32 549293790,
          Value.int IntKind.u32 820201905, Value.int IntKind.u32 1098587580, Value.int IntKind.u32 1361435347,
          Value.int IntKind.u32 1640403810, Value.int IntKind.u32 1905808397, Value.int IntKind.u32 2197175160,
          Value.int IntKind.u32 2460548119, Value.int IntKind.u32 2722870694, Value.int IntKind.u32 2987750089,
          Value.int IntKind.u32 3280807620, Value.int IntKind.u32 3553878443, Value.int IntKind.u32 3811616794,
          Value.int IntKind.u32 4084100981] 92 (0, 0)
theorem tab_small : ∀ n, n < 16 → (#[Value.int IntKind.u32 0, Value.int IntKind.u32 274646895, Value.int IntKind.u32 549293790,
          Value.int IntKind.u32 820201905, Value.int IntKind.u32 1098587580, Value.int IntKind.u32 1361435347,
          Value.int IntKind.u32 1640403810, Value.int IntKind.u32 1905808397, Value.int IntKind.u32 2197175160,
          Value.int IntKind.u32 2460548119, Value.int IntKind.u32 2722870694, Value.int IntKind.u32 2987750089,
          Value.int IntKind.u32 3280807620, Value.int IntKind.u32 3553878443, Value.int IntKind.u32 3811616794,
          Value.int IntKind.u32 4084100981] : Array Value)[n]? = some (.int .u32 (tab.getD n 0 : Nat)) := by
  intro n hn
  have h : n = 0 ∨ n = 1 ∨ n = 2 ∨ n = 3 ∨ n = 4 ∨ n = 5 ∨ n = 6 ∨ n = 7 ∨ n = 8 ∨ n = 9 ∨ n = 10 ∨ n = 11 ∨ n = 12 ∨ n = 13 ∨ n = 14 ∨ n = 15 := by omega
  rcases h with rfl | rfl | rfl | rfl | rfl | rfl | rfl | rfl | rfl | rfl | rfl | rfl | rfl | rfl | rfl | rfl <;> rfl
theorem tab_cell (w : World) (n : Nat) (hn : n < 16) : (w.alloc tabObj).cell? ⟨w.heap.size, n, none⟩ = some (.int .u32 (tab.getD n 0 : Nat)) := by
  have h : (w.alloc tabObj).heap[w.heap.size]? = some tabObj := heap_alloc_new w _
  exact (cell_of_row _ _ _ _ _ _ h).trans (tab_small n hn)

def roundF (r c : Nat) (k : Nat) : Nat := if k = 0 then r ^^^ c else if k = 1 then nib (r ^^^ c) else takeF r c
theorem roundF_lt {r c : Nat} (hr : r < 4294967296) (hc : c < 256) (k : Nat) : roundF r c k < 4294967296 := by
  unfold roundF
  have := xor_byte_lt hr hc
  split
  · exact this
  · split
    · exact nib_lt this
    · exact takeF_lt hr hc
theorem roundF_succ (r c k : Nat) (hk : k < 2) : roundF r c (k + 1) = nib (roundF r c k) := by
  unfold roundF
  have h : k = 0 ∨ k = 1 := by omega
  rcases h with rfl | rfl <;> simp [takeF]
theorem and15 (r : Nat) (h : r < 4294967296) : bits .and .u32 (r : Int) 15 = ((r % 16 : Nat) : Int) := by
  have := u32_and_nat r 15 h (by omega)
  rw [show ((15 : Nat) : Int) = 15 from rfl] at this
  rw [this]
  congr 1
  exact Nat.and_two_pow_sub_one_eq_mod r 4

set_option maxHeartbeats 800000 in
theorem take_any (r c : Nat) (w : World) (hr : r < 4294967296) (hc : c < 256) :
    Calls Try.prog 62 #[.int .u32 r, .int .u8 c] w fun e w' => e = .returned (.int .u32 (takeF r c)) ∧ Below w.heap.size w w' := by
  have hx := u32_xor_nat r c hr (by omega)
  go_enter Try.func62, Try.ntmps62
  go_wp2
  clear hx
  have HB : Below w.heap.size w (w.alloc tabObj) := (Below.refl _ _).alloc (Nat.le_refl _) _
  have hc' := tab_cell w
  change Code.wp _ _ _ _ (w.alloc tabObj)
  generalize w.alloc tabObj = wr at HB hc' ⊢
  go_loop [0, 11] (fun reg i => ∃ k : Nat, k ≤ 2 ∧ i = .int .i64 k ∧ reg = .int .u32 (roundF r c k : Nat)) (fun _ i => 2 - (intOf i).toNat)
  case atStart => exact ⟨0, by omega, rfl, rfl⟩
  case round =>
    obtain ⟨k, hk, rfl, rfl⟩ := hrel
    have hlt := roundF_lt hr hc k
    by_cases h : k < 2
    · have HS := Lib.hid (roundF_succ r c k h)
      generalize roundF r c k = R at *
      have e1 := and15 R hlt
      have e2 := hc' (R % 16) (by omega)
      have e3 : bits .xor .u32 ((R / 16 : Nat) : Int) ((tab.getD (R % 16) 0 : Nat) : Int) = ((nib R : Nat) : Int) := by
        have : tab.getD (R % 16) 0 < 4294967296 := by
          have : ∀ n, n < 16 → tab.getD n 0 < 4294967296 := by decide
          exact this _ (by omega)
        rw [u32_xor_nat _ _ (by omega) this]; rfl
      clear hc'
      go_wp2
      go_round
      case rel => exact ⟨k + 1, by omega, by go_num, by rw [HS.out, ← e3]; simp⟩
      case measure => simp [intOf]; omega
    · go_wp2
      go_ret
      have : k = 2 := by omega
      subst this
      exact ⟨rfl, HB⟩
end Go.Proofs.Ytmofbgcanehdoaa.Crc
