/- chain by its contracts: Need, two, a piece. -/
import Derived.Test.YtbelcgjbhpjnpaaSq2
namespace Go.Proofs.Ytbelcgjbhpjnpaa.Sh
open Go.RowKit Pk Dk Pg
attribute [local go_sem ↓] Go.wp_at_zero Go.wp_at_succ
def cneedF (n : Int) : Int := max ((max n 0 + 227) / 228) 1
def twoL (n : Nat) : List UInt8 := [UInt8.ofNat (n / 256), UInt8.ofNat n]
def pieceL (v : List UInt8) (i : Nat) : List UInt8 := (v.drop (228 * i)).take 228
set_option maxRecDepth 100000 in
set_option maxHeartbeats 1000000 in
theorem cneed_any (n : Int) (h : n ≤ 1000000) (w : World) :
    Calls Try.prog 13 #[.int .i64 n] w fun e w' => e = .returned (.int .i64 (cneedF n)) ∧ w = w' := by
  unfold cneedF
  obtain ⟨m, hm⟩ := Int.eq_ofNat_of_zero_le (show 0 ≤ max n 0 by omega)
  rw [hm]
  have hm2 : m ≤ 1000000 := by omega
  have e1 : IntKind.i64.wrap ((m : Int) + 228) = (m : Int) + 228 := IntWalk.i64_in _ (by omega)
  have e2 : IntKind.i64.wrap ((m : Int) + 228 - 1) = (m : Int) + 227 := by rw [show (m : Int) + 228 - 1 = (m : Int) + 227 by omega]; exact IntWalk.i64_in _ (by omega)
  have e3 : IntKind.i64.wrap (((m : Int) + 227).tdiv 228) = ((m : Int) + 227) / 228 := by rw [Int.tdiv_eq_ediv_of_nonneg (by omega)]; exact IntWalk.i64_in _ (by omega)
  have e4 : IntKind.i64.wrap ((m : Int) + 227) = (m : Int) + 227 := IntWalk.i64_in _ (by omega)
  go_enter Try.func13, Try.ntmps13
  go_wp2_with fail
  all_goals
    go_ret
    refine ⟨?_, rfl⟩
    first | (simp; done) | (simp; omega)
set_option maxRecDepth 100000 in
set_option maxHeartbeats 1000000 in
theorem two_any (n : Nat) (h : n ≤ 60000) (w : World) :
    Calls Try.prog 25 #[.int .i64 (n : Nat)] w fun e w' => e = .returned (.string ⟨(twoL n).toArray⟩) ∧ Below w.heap.size w w' := by
  have O0 := Lib.hid (belowAlloc (Below.refl w.heap.size w) (.cells #[.int .u8 ((n : Int) / 256), .int .u8 ((n : Int) % 256)] 5))
  have B0 := Blk.new w 5 #[.int .u8 ((n : Int) / 256), .int .u8 ((n : Int) % 256)]
  have e1 : IntKind.u8.wrap ((n : Int) / 256) = (n : Int) / 256 := IntWalk.u8_in _ (by omega)
  have hb : bvs (twoL n) = [.int .u8 ((n : Int) / 256), .int .u8 ((n : Int) % 256)] := by
    unfold twoL bvs bv
    simp only [List.map_cons, List.map_nil, UInt8.toNat_ofNat']
    rw [show ((n / 256 % 2 ^ 8 : Nat) : Int) = (n : Int) / 256 by omega, show ((n % 2 ^ 8 : Nat) : Int) = (n : Int) % 256 by omega]
  have HR := Lib.hid (run_string_of (P := Try.prog) _ 65 9 5 Try.underlying65 Try.underlying5 Try.underlying9 ⟨w.heap.size, 0, none⟩ 2 2 (twoL n) rfl (cells_at (l := bvs (twoL n)) (by rw [hb]; exact B0) 0 _ (by simp)))
  clear B0 hb
  go_enter Try.func25, Try.ntmps25
  go_wp2_with fail
  rw [HR.out]
  go_wp2_with fail
  go_ret
  exact ⟨by first | rfl | simp, O0.out⟩
set_option maxRecDepth 100000 in
set_option maxHeartbeats 1000000 in
theorem piece_any {w : World} {q : Nat} (v : ByteArray) (hv : v.size ≤ 1024) (hq : w.cell? ⟨q, 0, none⟩ = some (.string v)) (i : Nat) (hi : 228 * i ≤ v.size) :
    Calls Try.prog 23 #[.int .i64 (i : Nat), .pointer (some ⟨q, 0, none⟩)] w fun e w' => e = .returned (.string ⟨(pieceL v.data.toList i).toArray⟩) ∧ w = w' := by
  have e1 : IntKind.i64.wrap ((i : Int) * 228) = ((228 * i : Nat) : Int) := by rw [show (i : Int) * 228 = ((228 * i : Nat) : Int) by omega]; exact IntWalk.i64_in _ (by omega)
  have e2 : IntKind.i64.wrap ((i : Int) + 1) = (i : Int) + 1 := IntWalk.i64_in _ (by omega)
  have e3 : IntKind.i64.wrap (((i : Int) + 1) * 228) = ((228 * i + 228 : Nat) : Int) := by rw [show ((i : Int) + 1) * 228 = ((228 * i + 228 : Nat) : Int) by omega]; exact IntWalk.i64_in _ (by omega)
  have HP := Lib.hid (show ∀ b : Nat, (228 * i + 228 ≤ v.size → b = 228 * i + 228) → (v.size < 228 * i + 228 → b = v.size) → v.extract (228 * i) b = ⟨(pieceL v.data.toList i).toArray⟩ from fun b h1 h2 => by
    apply ByteArray.ext
    apply Array.toList_inj.1
    show (v.extract (228 * i) b).data.toList = pieceL v.data.toList i
    rw [exl']
    unfold pieceL
    rcases Nat.lt_or_ge v.size (228 * i + 228) with h | h
    · rw [h2 h, List.take_of_length_le (by simp), List.take_of_length_le (by simp; omega)]
    · rw [h1 h, show 228 * i + 228 - 228 * i = 228 by omega])
  go_enter Try.func23, Try.ntmps23
  go_wp2_with fail
  · go_ret
    exact ⟨by rw [HP.out _ (by omega) (by omega)]; rfl, rfl⟩
  · go_ret
    exact ⟨by rw [HP.out _ (by omega) (by omega)]; rfl, rfl⟩
end Go.Proofs.Ytbelcgjbhpjnpaa.Sh
