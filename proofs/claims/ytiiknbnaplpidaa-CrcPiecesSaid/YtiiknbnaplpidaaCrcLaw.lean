/- what all the statements of layer 3 share: few, awake. -/
import Derived.Test.YtiiknbnaplpidaaCrcCut
import Derived.Test.YtiiknbnaplpidaaCrcRef
namespace Go.Proofs.Ytiiknbnaplpidaa.Crc
open Go.RowKit

theorem drop_lay (l : List UInt8) : (layF l).drop 4 = l := by simp [layF, fourL]
theorem take_lay (l : List UInt8) : (layF l).take 4 = fourL (sumF l) := by simp [layF, fourL]
theorem lay_length (l : List UInt8) : (layF l).length = 4 + l.length := by simp [layF, fourL]; omega

theorem cut_lay (l : List UInt8) (w : World) (hl : l.length ≤ 100000000) :
    Calls Try.prog 15 #[.string ⟨(layF l).toArray⟩] w fun e w' => e = .returned (.tuple #[.string ⟨l.toArray⟩, .int .i64 0]) ∧ Below w.heap.size w w' := by
  have hsz : (⟨(layF l).toArray⟩ : ByteArray).size = 4 + l.length := by simp [ByteArray.size, lay_length]
  have h := cut_ok ⟨(layF l).toArray⟩ w (by omega) (by unfold maxLen; omega) (by simp only [drop_lay, take_lay])
  have e : (⟨(layF l).toArray⟩ : ByteArray).extract 4 (⟨(layF l).toArray⟩ : ByteArray).size = ⟨l.toArray⟩ := by
    apply ByteArray.ext
    apply Array.toList_inj.1
    rw [extract_tail]
    simp only [drop_lay]
  rw [e] at h
  exact h

theorem sumF_append (l m : List UInt8) : 4294967295 - moreF (4294967295 - sumF l) m = sumF (l ++ m) := by
  have h := moreF_lt l (r := 4294967295) (by omega)
  have e : 4294967295 - sumF l = moreF 4294967295 l := by unfold sumF; omega
  rw [e, ← moreF_append]; rfl
theorem more_sum (l : List UInt8) (s : ByteArray) (w : World) (hs : s.size ≤ maxLen) :
    Calls Try.prog 14 #[.int .u32 (sumF l : Nat), .string s] w fun e w' => e = .returned (.int .u32 (sumF (l ++ s.data.toList) : Nat)) ∧ Below w.heap.size w w' := by
  have := more_any (sumF l) s w (sumF_lt l) hs
  rwa [sumF_append] at this

theorem check_digits : sumF [49, 50, 51, 52, 53, 54, 55, 56, 57] = 3808858755 := by decide +kernel

set_option maxHeartbeats 400000 in
theorem awake_any (w : World) :
    Calls Try.prog 9 #[] w fun e w' => e = .returned (.bool true) ∧ Below w.heap.size w w' := by
  have hd := check_digits
  have H1 := fun w => lay_any ⟨#[97, 98, 99]⟩ w (by decide)
  have H2 := fun w => cut_lay [97, 98, 99] w (by decide)
  have H3 := fun w => sum_any ⟨#[49, 50, 51, 52, 53, 54, 55, 56, 57]⟩ w (by decide)
  rw [show ((⟨#[49, 50, 51, 52, 53, 54, 55, 56, 57]⟩ : ByteArray).data.toList) = [49, 50, 51, 52, 53, 54, 55, 56, 57] from rfl, hd] at H3
  clear hd
  have K1 := Lib.hid H1
  have K2 := Lib.hid H2
  have K3 := Lib.hid H3
  clear H1 H2 H3
  go_enter Try.func9, Try.ntmps9
  go_wp2_with fail
  refine (K1.out _).mono ?_
  rintro e w1 ⟨rfl, hb1⟩
  go_wp2_with fail
  refine (K2.out _).mono ?_
  rintro e w2 ⟨rfl, hb2⟩
  go_wp2_with fail
  refine (K3.out _).mono ?_
  rintro e w3 ⟨rfl, hb3⟩
  go_wp2_with fail
  go_ret
  exact ⟨rfl, hb1.trans ((hb2.mono hb1.size).trans (hb3.mono (Nat.le_trans hb1.size hb2.size)))⟩

set_option maxHeartbeats 400000 in
theorem few_any (s : ByteArray) (w : World) (hs : s.size ≤ maxLen) :
    Calls Try.prog 8 #[.string s] w fun e w' => ∃ t : ByteArray, t.size ≤ 2000 ∧ e = .returned (.string t) ∧ w = w' := by
  unfold maxLen at hs
  by_cases h : 2000 < s.size
  · go_enter Try.func8, Try.ntmps8
    go_wp2
    go_ret
    exact ⟨s.extract 0 2000, by simp; omega, rfl, rfl⟩
  · go_enter Try.func8, Try.ntmps8
    go_wp2
    go_ret
    exact ⟨s, by omega, rfl, rfl⟩
end Go.Proofs.Ytiiknbnaplpidaa.Crc
