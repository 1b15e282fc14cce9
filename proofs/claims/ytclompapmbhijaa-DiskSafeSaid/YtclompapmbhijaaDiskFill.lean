/- the reference's Fill. -/
import Derived.Test.YtclompapmbhijaaDisk7
import Derived.Test.YtclompapmbhijaaKit2
namespace Go.Proofs.Ytclompapmbhijaa.Dk
open Go.RowKit
attribute [local go_sem ↓] exec_app
theorem info_u8 : (Try.prog.info? 5).map (fun i => (i.zero, i.size, i.bytes)) = some (some (.int .u8 0), 1, 1) := by kernel_rfl
theorem fill_pad (l : List UInt8) (k : Nat) : (l ++ List.replicate (k - l.length) 0).take 64 = if 64 ≤ k then fillF l else (l ++ List.replicate (k - l.length) 0).take 64 := by
  split
  · apply List.ext_getElem?
    intro j
    unfold fillF
    by_cases h1 : j < 64
    · rw [List.getElem?_take_of_lt h1]
      by_cases h2 : j < l.length
      · rw [List.getElem?_append_left h2, List.getElem?_append_left (by simp; omega), List.getElem?_take_of_lt h1]
      · rw [List.getElem?_append_right (by omega), List.getElem?_append_right (by simp; omega), List.getElem?_replicate, List.getElem?_replicate, if_pos (by omega), if_pos (by simp; omega)]
    · rw [List.getElem?_eq_none (by simp; omega), List.getElem?_eq_none (by simp; omega)]
  · rfl
set_option maxHeartbeats 1000000 in
theorem fill_any (s : ByteArray) (w : World) (hs : s.size ≤ 1000000) :
    Calls Try.prog 18 #[.string s] w fun e w' => e = .returned (.string ⟨(fillF s.data.toList).toArray⟩) ∧ Below w.heap.size w w' := by
  obtain ⟨cap, w1, e1, S1, hb1⟩ := bytes_of_string (P := Try.prog) w 9 61 5 s Try.underlying9 Try.underlying61 Try.underlying5 (by unfold maxLen; omega)
  have E1 := Lib.hid e1
  clear e1
  go_enter Try.func18, Try.ntmps18
  go_wp2
  rw [E1.out]
  go_wp2
  go_loopw [3] (fun v wr => ∃ (k : Nat), s.size ≤ k ∧ (k ≤ 64 ∨ k = s.size) ∧ Slc wr 5 1 v k (bvs (s.data.toList ++ List.replicate (k - s.size) 0)) ∧ Below w.heap.size w wr ∧ Hid (∀ x ∈ ownB v, w.heap.size ≤ x)) (fun v _ => 64 - (match v with | .slice _ n _ => n | _ => 0))
  case atStart => exact ⟨s.size, Nat.le_refl _, .inr rfl, by simpa using S1, hb1, Lib.hid (by simp [ownB])⟩
  case round =>
    obtain ⟨k, hsk, hk, S, O, F⟩ := hrel
    obtain ⟨A, c, rfl⟩ := slc_val S
    by_cases h : k < 64
    · obtain ⟨v', w2, ea, S', O', F'⟩ := append_one (P := Try.prog) S 61 61 (.int .u8 0) 1 Try.underlying61 info_u8 rfl (.int .u8 0) rfl (by unfold maxLen; omega) (by omega)
      have F' := Lib.hid F'
      have el : bvs (s.data.toList ++ List.replicate (k - s.size) 0) ++ [.int .u8 0] = bvs (s.data.toList ++ List.replicate (k + 1 - s.size) 0) := by
        rw [show k + 1 - s.size = (k - s.size) + 1 by omega, List.replicate_succ']
        simp [bvs, bv]
      rw [el] at S'
      obtain ⟨A', c', rfl⟩ := slc_val S'
      clear el
      go_wp2
      go_roundw
      case rel => exact ⟨k + 1, by omega, by omega, S', O.trans (O'.below_of O.size F.out), Lib.hid fun x hx => (F'.out x hx).elim (F.out x) (fun h => Nat.le_trans O.size h)⟩
      case measure => simp; omega
    · obtain ⟨g, cap2, rest, hv, B, hcap, hrest⟩ := S.form (by omega) (by omega)
      simp only [Value.slice.injEq, true_and] at hv
      obtain ⟨rfl, rfl⟩ := hv
      have hfp := fill_pad s.data.toList k
      rw [if_pos (by omega)] at hfp
      have hlen : s.data.toList.length = s.size := by simp
      rw [hlen] at hfp
      have hst := run_string_of (P := Try.prog) wr 61 9 5 Try.underlying61 Try.underlying5 Try.underlying9 ⟨g, 0, none⟩ 64 c (fillF s.data.toList) (fillF_length _) (cells_at B 0 (bvs (fillF s.data.toList)) (by
        intro j u hu
        rw [← hfp, bvs_get] at hu
        have hj : j < 64 := by
          rcases Nat.lt_or_ge j 64 with h | h
          · exact h
          · rw [List.getElem?_eq_none (by simp; omega)] at hu; simp at hu
        rw [List.getElem?_take_of_lt hj] at hu
        have hj2 : j < (s.data.toList ++ List.replicate (k - s.size) (0 : UInt8)).length := by simp; omega
        rw [Nat.zero_add, List.getElem?_append_left (by simpa using hj2), bvs_get]
        exact hu))
      have HS := Lib.hid hst
      clear hst hfp hlen
      go_wp2
      rw [HS.out]
      go_wp2
      go_ret
      exact ⟨rfl, O⟩
end Go.Proofs.Ytclompapmbhijaa.Dk
