/- roots: the bytes and what they say. -/
import Derived.Test.YtemcamhkacaoiaaRt5
namespace Go.Proofs.Ytemcamhkacaoiaa.Rt
open Go.RowKit Pk
theorem beN_be8 (N : Nat) (h : N < 18446744073709551616) : beN (be8 N) = N := by
  have e : be8 N = [UInt8.ofNat (N / 72057594037927936), UInt8.ofNat (N / 281474976710656), UInt8.ofNat (N / 1099511627776), UInt8.ofNat (N / 4294967296), UInt8.ofNat (N / 16777216), UInt8.ofNat (N / 65536), UInt8.ofNat (N / 256), UInt8.ofNat (N / 1)] := rfl
  rw [e]
  simp only [beN, List.foldl_cons, List.foldl_nil, UInt8.toNat_ofNat']
  omega
theorem packI_length (ep : Int) : (packI ep).length = 8 := by unfold packI be8; rw [beK_length]
theorem packI_back (ep : Int) (h0 : 0 ≤ ep) (h1 : ep ≤ 1099511627776) : (beN (packI ep) : Int) - 9223372036854775808 = ep := by
  unfold packI
  rw [beN_be8 _ (by omega)]
  omega
theorem flat_two (l : List Nat) : (l.flatMap two8).length = 2 * l.length := by
  induction l with
  | nil => rfl
  | cons a l ih => rw [List.flatMap_cons, List.length_append, ih]; simp [two8]; omega
theorem midL_length (lg : Nat) (l : List Nat) (h : l.length ≤ 5) : (midL lg l).length = 44 := by
  unfold midL
  simp only [List.length_append, flat_two, List.length_replicate]
  simp [two8]; omega
theorem layF_length (m : List UInt8) : (Crc.layF m).length = m.length + 4 := by unfold Crc.layF; simp [Crc.fourL]
theorem drop2 (a : Nat) (r : List UInt8) : (two8 a ++ r).drop 2 = r := rfl
theorem drop4 (a b : Nat) (r : List UInt8) : (two8 a ++ (two8 b ++ r)).drop 4 = r := rfl
theorem at2_cons2 (n : Nat) (h : n < 65536) (r : List UInt8) : at2 (two8 n ++ r) 0 = n := by
  unfold at2 two8
  simp only [List.cons_append, List.nil_append, List.getD_cons_zero, List.getD_cons_succ, UInt8.toNat_ofNat']
  omega
theorem at2_drop (b : List UInt8) (j k : Nat) : at2 b (j + k) = at2 (b.drop j) k := by
  unfold at2
  simp only [List.getD_eq_getElem?_getD, List.getElem?_drop, Nat.add_assoc]
theorem at2_flat (l : List Nat) (r : List UInt8) (i : Nat) (h : i < l.length) (hs : ∀ x ∈ l, x < 65536) : at2 (l.flatMap two8 ++ r) (2 * i) = l[i] := by
  induction l generalizing i with
  | nil => simp at h
  | cons a l ih =>
    cases i with
    | zero =>
      rw [List.flatMap_cons, List.append_assoc, Nat.mul_zero, at2_cons2 a (hs a (by simp))]; rfl
    | succ i =>
      rw [show 2 * (i + 1) = 2 + 2 * i by omega, at2_drop]
      have hd : ((a :: l).flatMap two8 ++ r).drop 2 = l.flatMap two8 ++ r := by rw [List.flatMap_cons]; rfl
      rw [hd, ih i (by simpa using h) (fun x hx => hs x (List.mem_cons_of_mem _ hx))]
      rfl
/-- what bytes say -/
def decEp (v : List UInt8) : Int := (beN (v.take 8) : Int) - 9223372036854775808
def decM (v : List UInt8) : List UInt8 := (v.drop 12).take 44
def decP (v : List UInt8) : List Nat := (List.range (at2 (decM v) 2)).map fun i => at2 (decM v) (4 + 2 * i)
def goodR (v : List UInt8) : Prop := at2 (decM v) 2 ≤ 5 ∧ rightR (decEp v) (at2 (decM v) 0 : Nat) (natI (decP v)) ∧ rootL (decEp v) (at2 (decM v) 0) (decP v) = v
theorem rootL_take (ep : Int) (lg : Nat) (l : List Nat) : (rootL ep lg l).take 8 = packI ep := by
  unfold rootL
  rw [List.append_assoc, List.take_append_of_le_length (by rw [packI_length]; exact Nat.le_refl _), List.take_of_length_le (by rw [packI_length]; exact Nat.le_refl _)]
theorem rootL_drop8 (ep : Int) (lg : Nat) (l : List Nat) : (rootL ep lg l).drop 8 = Crc.layF (midL lg l) ++ packI ep := by
  unfold rootL
  rw [List.append_assoc, List.drop_append_of_le_length (by rw [packI_length]; exact Nat.le_refl _), List.drop_of_length_le (by rw [packI_length]; exact Nat.le_refl _), List.nil_append]
theorem rootL_mid (ep : Int) (lg : Nat) (l : List Nat) (h : l.length ≤ 5) : ((rootL ep lg l).drop 8).take 48 = Crc.layF (midL lg l) := by
  have h2 : (Crc.layF (midL lg l)).length = 48 := by rw [layF_length, midL_length _ _ h]
  rw [rootL_drop8, List.take_append_of_le_length (by omega), List.take_of_length_le (by omega)]
theorem rootL_last (ep : Int) (lg : Nat) (l : List Nat) (h : l.length ≤ 5) : (rootL ep lg l).drop 56 = packI ep := by
  have h2 : (Crc.layF (midL lg l)).length = 48 := by rw [layF_length, midL_length _ _ h]
  rw [show 56 = 8 + 48 by rfl, ← List.drop_drop, rootL_drop8, List.drop_append_of_le_length (by omega), List.drop_of_length_le (by omega), List.nil_append]
theorem rootL_length (ep : Int) (lg : Nat) (l : List Nat) (h : l.length ≤ 5) : (rootL ep lg l).length = 64 := by
  unfold rootL
  simp only [List.length_append, packI_length, layF_length, midL_length _ _ h]
theorem decM_root (ep : Int) (lg : Nat) (l : List Nat) (h : l.length ≤ 5) : decM (rootL ep lg l) = midL lg l := by
  unfold decM
  rw [show 12 = 8 + 4 by rfl, ← List.drop_drop, rootL_drop8]
  unfold Crc.layF
  have hm := midL_length lg l h
  have hf : ∀ n, (Crc.fourL n).length = 4 := fun n => by simp [Crc.fourL]
  rw [List.append_assoc, List.drop_append_of_le_length (by rw [hf]; exact Nat.le_refl _), List.drop_of_length_le (by rw [hf]; exact Nat.le_refl _), List.nil_append, List.take_append_of_le_length (by omega), List.take_of_length_le (by omega)]
set_option maxHeartbeats 1000000 in
/-- what was laid is read as it was -/
theorem dec_root (ep : Int) (lg : Nat) (l : List Nat) (hr : rightR ep lg (natI l)) : decEp (rootL ep lg l) = ep ∧ at2 (decM (rootL ep lg l)) 0 = lg ∧ at2 (decM (rootL ep lg l)) 2 = l.length ∧ decP (rootL ep lg l) = l := by
  have h5 : l.length ≤ 5 := by have := rightR_len hr; simpa [natI] using this
  have hep := hr.1
  have hlg : lg ≤ 512 := by have := hr.2.2.2.1; omega
  have hs : ∀ x ∈ l ++ List.replicate (5 - l.length) 0, x < 65536 := by
    intro x hx
    rcases List.mem_append.1 hx with hx | hx
    · obtain ⟨i, hi, rfl⟩ := List.getElem_of_mem hx
      have h1 := hr.2.2.2.2.2 i ((l[i] : Nat) : Int) (by simp [natI]; exact ⟨l[i], List.getElem?_eq_getElem hi, rfl⟩)
      omega
    · have := List.eq_of_mem_replicate hx; omega
  have h2 : at2 (midL lg l) 2 = l.length := by
    unfold midL
    rw [show (2 : Nat) = 2 + 0 by rfl, at2_drop, List.append_assoc, List.append_assoc, drop2]
    exact at2_cons2 _ (by omega) _
  have h4 : ∀ i, i < l.length → at2 (midL lg l) (4 + 2 * i) = l.getD i 0 := by
    intro i hi
    unfold midL
    rw [at2_drop, List.append_assoc, List.append_assoc, drop4]
    rw [at2_flat _ _ i (by rw [List.length_append]; omega) hs, List.getElem_append_left hi, List.getD_eq_getElem?_getD, List.getElem?_eq_getElem hi]; rfl
  refine ⟨?_, ?_, ?_, ?_⟩
  · unfold decEp; rw [rootL_take]; exact packI_back ep (by omega) hr.2.1
  · rw [decM_root _ _ _ h5]
    unfold midL
    rw [List.append_assoc, List.append_assoc]
    exact at2_cons2 lg (by omega) _
  · rw [decM_root _ _ _ h5, h2]
  · unfold decP
    rw [decM_root _ _ _ h5, h2]
    apply List.ext_getElem (by simp)
    intro i h1 h3
    simp only [List.length_map, List.length_range] at h1
    rw [List.getElem_map, List.getElem_range, h4 i h1, List.getD_eq_getElem?_getD, List.getElem?_eq_getElem h1]; rfl
theorem good_root (ep : Int) (lg : Nat) (l : List Nat) (hr : rightR ep lg (natI l)) : goodR (rootL ep lg l) := by
  obtain ⟨h1, h2, h3, h4⟩ := dec_root ep lg l hr
  have h5 : l.length ≤ 5 := by have := rightR_len hr; simpa [natI] using this
  exact ⟨by rw [h3]; exact h5, by rw [h1, h2, h4]; exact hr, by rw [h1, h2, h4]⟩
theorem good_crc {v : List UInt8} (h : goodR v) : Crc.fourL (Crc.sumF ((((v.drop 8).take 48)).drop 4)) = ((v.drop 8).take 48).take 4 ∧ v.take 8 = v.drop 56 := by
  have h5 : (decP v).length ≤ 5 := by unfold decP; simp; exact h.1
  have hv := h.2.2
  generalize decEp v = ep at hv
  generalize at2 (decM v) 0 = lg at hv
  generalize decP v = l at hv h5
  subst hv
  rw [rootL_mid _ _ _ h5, rootL_take, rootL_last _ _ _ h5]
  refine ⟨?_, rfl⟩
  unfold Crc.layF
  have hf : ∀ n, (Crc.fourL n).length = 4 := fun n => by simp [Crc.fourL]
  rw [List.drop_append_of_le_length (by rw [hf]; exact Nat.le_refl _), List.drop_of_length_le (by rw [hf]; exact Nat.le_refl _), List.nil_append, List.take_append_of_le_length (by rw [hf]; exact Nat.le_refl _), List.take_of_length_le (by rw [hf]; exact Nat.le_refl _)]
end Go.Proofs.Ytemcamhkacaoiaa.Rt
