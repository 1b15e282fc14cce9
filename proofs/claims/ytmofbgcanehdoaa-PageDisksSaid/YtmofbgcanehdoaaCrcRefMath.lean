/-
  The reference's bits: read one by one they come to the same register.
-/
import Derived.Test.YtmofbgcanehdoaaCrcMath
namespace Go.Proofs.Ytmofbgcanehdoaa.Crc
def bitAt (l : List UInt8) (i : Nat) : Nat := (l.getD (i / 8) 0).toNat / 2 ^ (i % 8) % 2
def refReg (l : List UInt8) : Nat → Nat
  | 0 => 4294967295
  | i + 1 => bitStep (refReg l i) (bitAt l i)
theorem bitStep_lt {r b : Nat} (h : r < 4294967296) : bitStep r b < 4294967296 := by
  unfold bitStep
  have h1 : r / 2 < 2 ^ 32 := by omega
  split
  · omega
  · exact Nat.xor_lt_two_pow h1 poly_lt
theorem refReg_lt (l : List UInt8) (i : Nat) : refReg l i < 4294967296 := by
  induction i with
  | zero => simp [refReg]
  | succ i ih => exact bitStep_lt ih
theorem bitAt_of (l : List UInt8) (k j : Nat) (hj : j < 8) : bitAt l (8 * k + j) = (l.getD k 0).toNat / 2 ^ j % 2 := by
  unfold bitAt
  have h1 : (8 * k + j) / 8 = k := by omega
  have h2 : (8 * k + j) % 8 = j := by omega
  rw [h1, h2]
theorem refReg_byte (l : List UInt8) (k : Nat) : refReg l (8 * (k + 1)) = takeF (refReg l (8 * k)) (l.getD k 0).toNat := by
  rw [← byteStep_eq _ _ (by have := (l.getD k 0).toNat_lt; omega)]
  have e : 8 * (k + 1) = 8 * k + 7 + 1 := by omega
  rw [e]
  have b := fun j hj => bitAt_of l k j hj
  have b0 := b 0 (by omega)
  have b1 := b 1 (by omega)
  have b2 := b 2 (by omega)
  have b3 := b 3 (by omega)
  have b4 := b 4 (by omega)
  have b5 := b 5 (by omega)
  have b6 := b 6 (by omega)
  have b7 := b 7 (by omega)
  simp only [Nat.add_zero] at b0
  simp only [refReg, byteStep, b0, b1, b2, b3, b4, b5, b6, b7, Nat.pow_zero, Nat.div_one]
theorem refReg_take (l : List UInt8) : ∀ k, k ≤ l.length → refReg l (8 * k) = moreF 4294967295 (l.take k) := by
  intro k
  induction k with
  | zero => intro _; rfl
  | succ k ih =>
    intro h
    rw [refReg_byte, ih (by omega), List.take_succ_eq_append_getElem (by omega), moreF_snoc]
    congr 2
    simp [List.getD, List.getElem?_eq_getElem (show k < l.length by omega)]
theorem refReg_all (l : List UInt8) : 4294967295 - refReg l (8 * l.length) = sumF l := by
  rw [refReg_take l _ (Nat.le_refl _), List.take_length]; rfl
end Go.Proofs.Ytmofbgcanehdoaa.Crc
