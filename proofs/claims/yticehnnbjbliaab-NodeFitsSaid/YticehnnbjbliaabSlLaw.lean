/- what the statements of layer 17 share: awake, same. -/
import Derived.Test.YticehnnbjbliaabSlRef4
namespace Go.Proofs.Yticehnnbjbliaab.Sl
open Go.RowKit
attribute [local go_sem ↓] exec_app

theorem ba_eq (T : ByteArray) : (⟨T.data.toList.toArray⟩ : ByteArray) = T := by simp
theorem ba_of (b : List UInt8) : ∃ T : ByteArray, T.data.toList = b := ⟨⟨b.toArray⟩, by simp⟩
theorem getF_rec {b : List UInt8} (h : Sound b) (i : Nat) (hi : i < (recs b).length) : getF b i = ((recs b)[i], 0) := by
  have hn : i < at2 b 0 := by rw [← recs_length]; exact hi
  unfold getF
  rw [if_pos ((checkF_ok b).2 h), if_pos ⟨by omega, by omega⟩, Int.toNat_natCast]
  simp [recs, slots]
theorem lenF_rec {b : List UInt8} (h : Sound b) : lenF b = ((recs b).length : Nat) := by
  unfold lenF
  rw [if_pos ((checkF_ok b).2 h), recs_length]
theorem roomG_rec {b : List UInt8} (h : Sound b) : roomG b = roomR (recs b) := by
  unfold roomG
  rw [if_pos ((checkF_ok b).2 h), room_eq h]
theorem recs_small {b : List UInt8} (h : Sound b) : ∀ r ∈ recs b, r.length ≤ 232 := by
  intro r hr
  simp only [recs, List.mem_map] at hr
  obtain ⟨x, hx, rfl⟩ := hr
  have := (h.fit.lies x hx).2
  rw [rec1_length (by rw [h.len]; omega)]
  omega
theorem recs_many {b : List UInt8} (h : Sound b) : (recs b).length ≤ 57 := by
  rw [recs_length]
  have := h.head
  have := h.heap
  omega
theorem insG_ok {b : List UInt8} (h : Sound b) (i : Nat) (r : List UInt8) (hr : (r.length : Int) ≤ roomR (recs b) - 4) (hi : i ≤ (recs b).length) :
    insG b i r = (insF b i r, 0) ∧ Sound (insF b i r) ∧ recs (insF b i r) = (recs b).take i ++ r :: (recs b).drop i := by
  rw [recs_length] at hi
  rw [← room_eq h] at hr
  refine ⟨?_, h.insert i r hr hi⟩
  unfold insG
  rw [if_pos ((checkF_ok b).2 h), if_pos ⟨by omega, by omega⟩, if_pos hr, Int.toNat_natCast]
end Go.Proofs.Yticehnnbjbliaab.Sl
