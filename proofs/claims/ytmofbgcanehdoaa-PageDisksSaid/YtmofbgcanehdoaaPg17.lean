/- pages: what was got is put as the very bytes. -/
import Derived.Test.YtmofbgcanehdoaaPg16
namespace Go.Proofs.Ytmofbgcanehdoaa.Pg
open Go.RowKit Pk Dk
theorem be8_beN (l : List UInt8) (h : l.length = 8) : be8 (beN l) = l := by
  match l, h with
  | [a, b, c, d, e, f, g, i], _ =>
    have e0 : be8 (beN [a, b, c, d, e, f, g, i]) = [UInt8.ofNat (beN [a, b, c, d, e, f, g, i] / 72057594037927936), UInt8.ofNat (beN [a, b, c, d, e, f, g, i] / 281474976710656), UInt8.ofNat (beN [a, b, c, d, e, f, g, i] / 1099511627776), UInt8.ofNat (beN [a, b, c, d, e, f, g, i] / 4294967296), UInt8.ofNat (beN [a, b, c, d, e, f, g, i] / 16777216), UInt8.ofNat (beN [a, b, c, d, e, f, g, i] / 65536), UInt8.ofNat (beN [a, b, c, d, e, f, g, i] / 256), UInt8.ofNat (beN [a, b, c, d, e, f, g, i] / 1)] := rfl
    have hN : beN [a, b, c, d, e, f, g, i] = (((((((a.toNat * 256 + b.toNat) * 256 + c.toNat) * 256 + d.toNat) * 256 + e.toNat) * 256 + f.toNat) * 256 + g.toNat) * 256 + i.toNat) := by simp [beN]
    have ha := a.toNat_lt; have hb := b.toNat_lt; have hc := c.toNat_lt; have hd := d.toNat_lt
    have he := e.toNat_lt; have hf := f.toNat_lt; have hg := g.toNat_lt; have hi := i.toNat_lt
    rw [e0, hN]
    have key : ∀ (x : UInt8) (n : Nat), n % 256 = x.toNat → UInt8.ofNat n = x := fun x n h => by
      apply UInt8.toNat_inj.1
      rw [UInt8.toNat_ofNat']; exact h
    rw [key a _ (by omega), key b _ (by omega), key c _ (by omega), key d _ (by omega), key e _ (by omega), key f _ (by omega), key g _ (by omega), key i _ (by omega)]
theorem packI_beN (l : List UInt8) (h : l.length = 8) : packI ((beN l : Int) - 9223372036854775808) = l := by
  have hlt := beN_lt l
  rw [h] at hlt
  unfold packI
  rw [show (((beN l : Int) - 9223372036854775808 + 9223372036854775808) % 18446744073709551616).toNat = beN l by omega]
  exact be8_beN l h
theorem drop_beN (l : List UInt8) (h : l.length = 4) : (be8 (beN l)).drop 4 = l := by
  have h8 := be8_beN ([0, 0, 0, 0] ++ l) (by simp [h])
  rw [beN_zero4] at h8
  rw [h8]; rfl
theorem gotF_zero {l : List UInt8} (h : (gotF l).2 ≠ 0) : (gotF l).1 = .zero := by
  unfold gotF at h ⊢
  split
  · rfl
  · split
    · rfl
    · split
      · rename_i h1 h2 h3
        rw [if_neg h1, if_neg h2, if_pos h3] at h
        exact absurd rfl h
      · rfl
/-- what was got is put as the very bytes -/
theorem putF_got {l : List UInt8} (h : (gotF l).2 = 0) : putF (gotF l).1.id (gotF l).1.ep (gotF l).1.kd (gotF l).1.s = (l, 0) ∧ (gotF l).1.id ≤ 9223372036854775807 := by
  unfold gotF at h ⊢
  split at h
  · simp at h
  · rename_i h1
    rw [if_neg h1]
    split at h
    · simp at h
    · rename_i h2
      rw [if_neg h2]
      split at h
      · rename_i h3
        rw [if_pos h3]
        have hl : l.length = 256 := by simpa using h1
        have hc : Crc.fourL (Crc.sumF (l.drop 4)) = l.take 4 := by simpa using h2
        show putF (decG l).id (decG l).ep (decG l).kd (decG l).s = (l, 0) ∧ (decG l).id ≤ 9223372036854775807
        have hs : (decG l).s.length = 232 := by show (l.drop 24).length = 232; rw [List.length_drop]; omega
        have hb : bodyL (decG l).id (decG l).ep (decG l).kd (decG l).s = l.drop 4 := by
          show packI ((beN ((l.drop 4).take 8) : Int) - 9223372036854775808) ++ packI ((beN ((l.drop 12).take 8) : Int) - 9223372036854775808) ++ (be8 ((beN ((l.drop 20).take 4) : Nat) : Int).toNat).drop 4 ++ l.drop 24 = _
          rw [packI_beN _ (by rw [List.length_take, List.length_drop]; omega), packI_beN _ (by rw [List.length_take, List.length_drop]; omega)]
          rw [show ((beN ((l.drop 20).take 4) : Nat) : Int).toNat = beN ((l.drop 20).take 4) from by omega, drop_beN _ (by rw [List.length_take, List.length_drop]; omega)]
          have e1 : l.drop 4 = (l.drop 4).take 8 ++ l.drop 12 := by
            have := (List.take_append_drop 8 (l.drop 4)).symm
            rwa [List.drop_drop] at this
          have e2 : l.drop 12 = (l.drop 12).take 8 ++ l.drop 20 := by
            have := (List.take_append_drop 8 (l.drop 12)).symm
            rwa [List.drop_drop] at this
          have e3 : l.drop 20 = (l.drop 20).take 4 ++ l.drop 24 := by
            have := (List.take_append_drop 4 (l.drop 20)).symm
            rwa [List.drop_drop] at this
          rw [List.append_assoc, List.append_assoc, ← e3, ← e2, ← e1]
        have hp : padL (l.drop 4) 252 = l.drop 4 := by
          unfold padL
          rw [show 252 - (l.drop 4).length = 0 by rw [List.length_drop]; omega, List.replicate_zero, List.append_nil]
        refine ⟨?_, ?_⟩
        · unfold putF
          rw [if_pos h3, if_neg (by omega)]
          unfold pageL
          rw [hb, hp]
          unfold Crc.layF
          rw [hc, List.take_append_drop]
        · have h1 := beN_lt ((l.drop 4).take 8)
          rw [show ((l.drop 4).take 8).length = 8 by rw [List.length_take, List.length_drop]; omega] at h1
          show (beN _ : Int) - 9223372036854775808 ≤ _
          omega
      · simp at h
end Go.Proofs.Ytmofbgcanehdoaa.Pg
