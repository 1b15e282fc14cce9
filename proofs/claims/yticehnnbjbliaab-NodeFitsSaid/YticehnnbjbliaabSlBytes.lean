/- slots: where the records lie. -/
import Derived.Test.YticehnnbjbliaabSlLaw
import Derived.Deep.DrawnRows
import Derived.Deep.RegionHeld3
namespace Go.Proofs.Yticehnnbjbliaab.Sl
open Go.RowKit

set_option maxHeartbeats 400000 in
theorem rtwo_any (i : Int) (w : World) (h0 : 0 ≤ i) (h : i < 65536) :
    Calls Try.prog 29 #[.int .i64 i] w fun e w' => e = .returned (.string ⟨(two8 i.toNat).toArray⟩) ∧ Below w.heap.size w w' := by
  obtain ⟨n, rfl⟩ := Int.eq_ofNat_of_zero_le h0
  rw [Int.toNat_natCast]
  have e0 : Value.int .u8 ((n : Int) / 256) = bv (UInt8.ofNat (n / 256)) := by
    unfold bv
    congr 1
    rw [UInt8.toNat_ofNat']
    omega
  have e1 : Value.int .u8 ((n : Int) % 256) = bv (UInt8.ofNat n) := by
    unfold bv
    rfl
  have HE := Lib.hid (show #[Value.int .u8 ((n : Int) / 256), Value.int .u8 ((n : Int) % 256)] = (bvs (two8 n)).toArray from by rw [e0, e1]; rfl)
  have B0 := Blk.new w 5 (bvs (two8 n)).toArray
  rw [← HE.out] at B0
  have O0 := Lib.hid ((Below.refl w.heap.size w).alloc (Nat.le_refl _) (.cells #[Value.int .u8 ((n : Int) / 256), Value.int .u8 ((n : Int) % 256)] 5))
  rw [HE.out] at B0
  have hst := run_string_of (P := Try.prog) (w.alloc (.cells (bvs (two8 n)).toArray 5)) 59 9 5 Try.underlying59 Try.underlying5 Try.underlying9 ⟨w.heap.size, 0, none⟩ 2 2 (two8 n) rfl (cells_at (l := bvs (two8 n)) (Blk.new w 5 _) 0 _ (by intro j u hu; rw [Nat.zero_add]; exact hu))
  rw [← HE.out] at hst
  have HS := Lib.hid hst
  clear hst B0 e0 e1
  go_enter Try.func29, Try.ntmps29
  go_wp2
  rw [HS.out]
  go_wp2
  go_ret
  exact ⟨rfl, O0.out⟩
/-- two bytes of a number, as a text -/
def tw (i : Int) : ByteArray := ⟨(two8 i.toNat).toArray⟩
theorem tw_list (i : Int) : (tw i).data.toList = two8 i.toNat := by simp [tw]
theorem tw_size (i : Int) : (tw i).size = 2 := by unfold tw; rw [size_of_list]; rfl
theorem rtwo_tw (i : Int) (w : World) (h0 : 0 ≤ i) (h : i < 65536) : Calls Try.prog 29 #[.int .i64 i] w fun e w' => e = .returned (.string (tw i)) ∧ Below w.heap.size w w' := rtwo_any i w h0 h
theorem eight {F : List UInt8} (hF : F.length = 232) (a b c d : Nat) : (put2 (put2 (put2 (put2 F 0 a) 2 b) 4 c) 6 d).take 8 = two8 a ++ two8 b ++ two8 c ++ two8 d := by
  match F, hF with
  | f0 :: f1 :: f2 :: f3 :: f4 :: f5 :: f6 :: f7 :: F, _ => simp [put2, two8]
theorem insF_first (r : List UInt8) (hr : r.length ≤ 224) : insF emptyF 0 r = put2 (put2 (put2 (put2 (lay emptyF (232 - r.length) r) 0 1) 2 (232 - r.length)) 4 (232 - r.length)) 6 r.length := by
  obtain ⟨s0, r0, z0, z2⟩ := empty_sound
  have hb : baseF emptyF r = emptyF := baseF_no (by rw [z0, z2]; omega)
  have hsl : slots emptyF = [] := by unfold slots; rw [z0]; rfl
  unfold insF
  rw [hb, z2, hsl]
  rfl
theorem first_bytes (r : List UInt8) (hr : r.length ≤ 224) : (insF emptyF 0 r).take 8 = two8 1 ++ two8 (232 - r.length) ++ two8 (232 - r.length) ++ two8 r.length ∧ (insF emptyF 0 r).drop (232 - r.length) = r := by
  have hl : emptyF.length = 232 := empty_sound.1.len
  have hll : (lay emptyF (232 - r.length) r).length = 232 := by rw [lay_length (by omega)]; exact hl
  rw [insF_first r hr]
  refine ⟨eight hll _ _ _ _, ?_⟩
  apply List.ext_getElem?
  intro j
  rw [List.getElem?_drop, put2_far _ _ _ _ (by omega), put2_far _ _ _ _ (by omega), put2_far _ _ _ _ (by omega), put2_far _ _ _ _ (by omega), lay_get (by omega)]
  by_cases hj : j < r.length
  · rw [if_pos ⟨by omega, by omega⟩]
    congr 1; omega
  · rw [if_neg (by omega), List.getElem?_eq_none (by omega), List.getElem?_eq_none (by omega)]
end Go.Proofs.Yticehnnbjbliaab.Sl
