/- a turned bit, in plain lists. -/
import Derived.Test.YtiiknbnaplpidaaCrcLaw
namespace Go.Proofs.Ytiiknbnaplpidaa.Crc
open Go.RowKit
theorem turned (x : UInt8) (j : Nat) (hj : j < 8) : ∃ d : UInt8, bits BinOp.xor IntKind.u8 (x.toNat : Int) ((2 : Int) ^ j % 256) = (d.toNat : Int) ∧ d ≠ x := by
  have hy : 2 ^ j < 256 := Nat.pow_lt_pow_right (by decide) (show j < 8 from hj)
  have hpos : 0 < 2 ^ j := Nat.two_pow_pos j
  have hx := x.toNat_lt
  have e : ((2 : Int) ^ j % 256) = ((2 ^ j : Nat) : Int) := by
    rw [show ((2 : Int) ^ j) = ((2 ^ j : Nat) : Int) by simp]; omega
  have hlt : x.toNat ^^^ 2 ^ j < 256 := Nat.xor_lt_two_pow (n := 8) (by omega) (by omega)
  have ht : ∀ z, z < 256 → (UInt8.ofNat z).toNat = z := by intro z hz; simp; omega
  refine ⟨UInt8.ofNat (x.toNat ^^^ 2 ^ j), ?_, ?_⟩
  · rw [e, u8_xor_nat _ _ (by omega) hy, ht _ hlt]
  · intro h
    have h2 := congrArg UInt8.toNat h
    rw [ht _ hlt] at h2
    have h3 : x.toNat ^^^ 2 ^ j = x.toNat := h2
    have h4 : x.toNat ^^^ 2 ^ j = x.toNat ^^^ 0 := by simpa using h3
    have := xor_cancel_left h4
    omega
theorem turned_low (l : List UInt8) (i : Nat) (d : UInt8) (hi : i < (layF l).length) (hd : d ≠ (layF l)[i]) :
    fourL (sumF (((layF l).set i d).drop 4)) ≠ ((layF l).set i d).take 4 := by
  by_cases h4 : i < 4
  · rw [List.drop_set_of_lt h4, drop_lay, List.take_set, take_lay]
    intro e
    have h5 := congrArg (fun m : List UInt8 => m[i]?) e
    have hl : i < (fourL (sumF l)).length := h4
    simp only [List.getElem?_set_self hl] at h5
    apply hd
    rw [List.getElem?_eq_getElem hl] at h5
    have h6 : (layF l)[i] = (fourL (sumF l))[i] := by
      simp only [layF]; rw [List.getElem_append_left hl]
    rw [h6]; exact (Option.some.inj h5).symm
  · have hL := lay_length l
    rw [List.drop_set, if_neg h4, drop_lay, List.take_set_of_le (by omega), take_lay]
    intro e
    have := fourL_inj (sumF_lt _) (sumF_lt _) e
    refine sumF_set l (i - 4) (by omega) d ?_ this
    intro h
    apply hd
    rw [h]
    have h6 : (layF l)[i] = l[i - 4]'(by omega) := by
      have hl : (fourL (sumF l)).length ≤ i := Nat.le_of_not_lt h4
      simp only [layF]; rw [List.getElem_append_right hl]; rfl
    rw [h6]
theorem turned_sum (l : List UInt8) (i : Nat) (d : UInt8) (hi : i < (layF l).length) (hd : d ≠ (layF l)[i]) (h4 : 4 ≤ i) :
    sumF (((layF l).set i d).drop 4) ≠ sumF l := by
  intro h
  apply turned_low l i d hi hd
  rw [h, List.take_set_of_le h4, take_lay]
end Go.Proofs.Ytiiknbnaplpidaa.Crc
