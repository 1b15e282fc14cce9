/- pack: numbers laid as eight bytes. -/
import Derived.Test.YtmofbgcanehdoaaCrcCut
import Derived.Test.YtmofbgcanehdoaaKit2
namespace Go.Proofs.Ytmofbgcanehdoaa.Pk
open Go.RowKit
attribute [local go_sem ↓] exec_app
/-- the first k of the eight bytes of a number, the highest first -/
def beK (N k : Nat) : List UInt8 := (List.range k).map fun j => UInt8.ofNat (N / 256 ^ (7 - j))
def be8 (N : Nat) : List UInt8 := beK N 8
theorem beK_snoc (N k : Nat) : beK N (k + 1) = beK N k ++ [UInt8.ofNat (N / 256 ^ (7 - k))] := by
  unfold beK
  rw [List.range_succ, List.map_append]; rfl
theorem beK_length (N k : Nat) : (beK N k).length = k := by simp [beK]
theorem bv_mod (n : Nat) : Value.int .u8 ((n : Int) % 256) = bv (UInt8.ofNat n) := by
  unfold bv
  congr 1
theorem bv_div (N p : Nat) : Value.int .u8 ((N : Int) / (p : Int) % 256) = bv (UInt8.ofNat (N / p)) := by
  rw [← Int.natCast_ediv]; exact bv_mod _
set_option maxRecDepth 100000 in
set_option maxHeartbeats 4000000 in
theorem put_any (N : Nat) (hN : N < 18446744073709551616) (w : World) :
    Calls Try.prog 52 #[.slice none 0 0, .int .u64 (N : Int), .int .i64 8] w fun e w' => (∃ v, e = .returned v ∧ Slc w' 5 1 v 8 (bvs (be8 N))) ∧ Below w.heap.size w w' := by
  go_enter Try.func52, Try.ntmps52
  go_wp2_with fail
  go_loopw [0, 7] (fun sv iv wr => ∃ (k : Nat), k ≤ 8 ∧ iv = .int .i64 (7 - (k : Int)) ∧ Slc wr 5 1 sv k (bvs (beK N k)) ∧ Below w.heap.size w wr ∧ Hid (∀ x ∈ ownB sv, w.heap.size ≤ x)) (fun _ iv _ => (intOf iv + 1).toNat)
  case atStart => exact ⟨0, by omega, rfl, Slc.nil _ _ _, Below.refl _ _, Lib.hid (by simp [ownB])⟩
  case round =>
    obtain ⟨k, hk, rfl, S, O, F⟩ := hrel
    obtain ⟨VA, vc, rfl⟩ := slc_val S
    have hkk : k = 0 ∨ k = 1 ∨ k = 2 ∨ k = 3 ∨ k = 4 ∨ k = 5 ∨ k = 6 ∨ k = 7 ∨ k = 8 := by omega
    rcases hkk with rfl | rfl | rfl | rfl | rfl | rfl | rfl | rfl | rfl
    · have hx : Value.int .u8 ((N : Int) / 72057594037927936) = bv (UInt8.ofNat (N / 72057594037927936)) := by rw [← bv_div N 72057594037927936]; congr 1; omega
      obtain ⟨v', w2, ea, S2, ow, fr⟩ := append_one (P := Try.prog) S 62 62 (.int .u8 0) 1 Try.underlying62 Crc.info_u8 rfl (.int .u8 ((N : Int) / 72057594037927936)) rfl (by unfold maxLen; omega) (by omega)
      obtain ⟨V2, vc2, rfl⟩ := slc_val S2
      have EA := Lib.hid ea
      have SX := Lib.hid (show Slc w2 5 1 (.slice V2 (0 + 1) vc2) (0 + 1) (bvs (beK N (0 + 1))) from by
        rw [hx] at S2
        rw [beK_snoc, bvs_append]
        exact S2)
      have OX := Lib.hid (O.trans (ow.below_of O.size F.out))
      have FX := Lib.hid (show ∀ x ∈ ownB (.slice V2 (0 + 1) vc2), w.heap.size ≤ x from fun x hx => (fr x hx).elim (F.out x) (fun h => Nat.le_trans O.size h))
      clear hx ea S S2 ow fr O
      go_wp2_with fail
      rw [EA.out]
      go_wp2_with fail
      go_roundw
      case rel => exact ⟨0 + 1, by omega, by first | rfl | simp, SX.out, OX.out, FX⟩
      case measure => first | decide | simp [intOf]
    · have hx : Value.int .u8 ((N : Int) / 281474976710656 % 256) = bv (UInt8.ofNat (N / 281474976710656)) := bv_div N 281474976710656
      obtain ⟨v', w2, ea, S2, ow, fr⟩ := append_one (P := Try.prog) S 62 62 (.int .u8 0) 1 Try.underlying62 Crc.info_u8 rfl (.int .u8 ((N : Int) / 281474976710656 % 256)) rfl (by unfold maxLen; omega) (by omega)
      obtain ⟨V2, vc2, rfl⟩ := slc_val S2
      have EA := Lib.hid ea
      have SX := Lib.hid (show Slc w2 5 1 (.slice V2 (1 + 1) vc2) (1 + 1) (bvs (beK N (1 + 1))) from by
        rw [hx] at S2
        rw [beK_snoc, bvs_append]
        exact S2)
      have OX := Lib.hid (O.trans (ow.below_of O.size F.out))
      have FX := Lib.hid (show ∀ x ∈ ownB (.slice V2 (1 + 1) vc2), w.heap.size ≤ x from fun x hx => (fr x hx).elim (F.out x) (fun h => Nat.le_trans O.size h))
      clear hx ea S S2 ow fr O
      go_wp2_with fail
      rw [EA.out]
      go_wp2_with fail
      go_roundw
      case rel => exact ⟨1 + 1, by omega, by first | rfl | simp, SX.out, OX.out, FX⟩
      case measure => first | decide | simp [intOf]
    · have hx : Value.int .u8 ((N : Int) / 1099511627776 % 256) = bv (UInt8.ofNat (N / 1099511627776)) := bv_div N 1099511627776
      obtain ⟨v', w2, ea, S2, ow, fr⟩ := append_one (P := Try.prog) S 62 62 (.int .u8 0) 1 Try.underlying62 Crc.info_u8 rfl (.int .u8 ((N : Int) / 1099511627776 % 256)) rfl (by unfold maxLen; omega) (by omega)
      obtain ⟨V2, vc2, rfl⟩ := slc_val S2
      have EA := Lib.hid ea
      have SX := Lib.hid (show Slc w2 5 1 (.slice V2 (2 + 1) vc2) (2 + 1) (bvs (beK N (2 + 1))) from by
        rw [hx] at S2
        rw [beK_snoc, bvs_append]
        exact S2)
      have OX := Lib.hid (O.trans (ow.below_of O.size F.out))
      have FX := Lib.hid (show ∀ x ∈ ownB (.slice V2 (2 + 1) vc2), w.heap.size ≤ x from fun x hx => (fr x hx).elim (F.out x) (fun h => Nat.le_trans O.size h))
      clear hx ea S S2 ow fr O
      go_wp2_with fail
      rw [EA.out]
      go_wp2_with fail
      go_roundw
      case rel => exact ⟨2 + 1, by omega, by first | rfl | simp, SX.out, OX.out, FX⟩
      case measure => first | decide | simp [intOf]
    · have hx : Value.int .u8 ((N : Int) / 4294967296 % 256) = bv (UInt8.ofNat (N / 4294967296)) := bv_div N 4294967296
      obtain ⟨v', w2, ea, S2, ow, fr⟩ := append_one (P := Try.prog) S 62 62 (.int .u8 0) 1 Try.underlying62 Crc.info_u8 rfl (.int .u8 ((N : Int) / 4294967296 % 256)) rfl (by unfold maxLen; omega) (by omega)
      obtain ⟨V2, vc2, rfl⟩ := slc_val S2
      have EA := Lib.hid ea
      have SX := Lib.hid (show Slc w2 5 1 (.slice V2 (3 + 1) vc2) (3 + 1) (bvs (beK N (3 + 1))) from by
        rw [hx] at S2
        rw [beK_snoc, bvs_append]
        exact S2)
      have OX := Lib.hid (O.trans (ow.below_of O.size F.out))
      have FX := Lib.hid (show ∀ x ∈ ownB (.slice V2 (3 + 1) vc2), w.heap.size ≤ x from fun x hx => (fr x hx).elim (F.out x) (fun h => Nat.le_trans O.size h))
      clear hx ea S S2 ow fr O
      go_wp2_with fail
      rw [EA.out]
      go_wp2_with fail
      go_roundw
      case rel => exact ⟨3 + 1, by omega, by first | rfl | simp, SX.out, OX.out, FX⟩
      case measure => first | decide | simp [intOf]
    · have hx : Value.int .u8 ((N : Int) / 16777216 % 256) = bv (UInt8.ofNat (N / 16777216)) := bv_div N 16777216
      obtain ⟨v', w2, ea, S2, ow, fr⟩ := append_one (P := Try.prog) S 62 62 (.int .u8 0) 1 Try.underlying62 Crc.info_u8 rfl (.int .u8 ((N : Int) / 16777216 % 256)) rfl (by unfold maxLen; omega) (by omega)
      obtain ⟨V2, vc2, rfl⟩ := slc_val S2
      have EA := Lib.hid ea
      have SX := Lib.hid (show Slc w2 5 1 (.slice V2 (4 + 1) vc2) (4 + 1) (bvs (beK N (4 + 1))) from by
        rw [hx] at S2
        rw [beK_snoc, bvs_append]
        exact S2)
      have OX := Lib.hid (O.trans (ow.below_of O.size F.out))
      have FX := Lib.hid (show ∀ x ∈ ownB (.slice V2 (4 + 1) vc2), w.heap.size ≤ x from fun x hx => (fr x hx).elim (F.out x) (fun h => Nat.le_trans O.size h))
      clear hx ea S S2 ow fr O
      go_wp2_with fail
      rw [EA.out]
      go_wp2_with fail
      go_roundw
      case rel => exact ⟨4 + 1, by omega, by first | rfl | simp, SX.out, OX.out, FX⟩
      case measure => first | decide | simp [intOf]
    · have hx : Value.int .u8 ((N : Int) / 65536 % 256) = bv (UInt8.ofNat (N / 65536)) := bv_div N 65536
      obtain ⟨v', w2, ea, S2, ow, fr⟩ := append_one (P := Try.prog) S 62 62 (.int .u8 0) 1 Try.underlying62 Crc.info_u8 rfl (.int .u8 ((N : Int) / 65536 % 256)) rfl (by unfold maxLen; omega) (by omega)
      obtain ⟨V2, vc2, rfl⟩ := slc_val S2
      have EA := Lib.hid ea
      have SX := Lib.hid (show Slc w2 5 1 (.slice V2 (5 + 1) vc2) (5 + 1) (bvs (beK N (5 + 1))) from by
        rw [hx] at S2
        rw [beK_snoc, bvs_append]
        exact S2)
      have OX := Lib.hid (O.trans (ow.below_of O.size F.out))
      have FX := Lib.hid (show ∀ x ∈ ownB (.slice V2 (5 + 1) vc2), w.heap.size ≤ x from fun x hx => (fr x hx).elim (F.out x) (fun h => Nat.le_trans O.size h))
      clear hx ea S S2 ow fr O
      go_wp2_with fail
      rw [EA.out]
      go_wp2_with fail
      go_roundw
      case rel => exact ⟨5 + 1, by omega, by first | rfl | simp, SX.out, OX.out, FX⟩
      case measure => first | decide | simp [intOf]
    · have hx : Value.int .u8 ((N : Int) / 256 % 256) = bv (UInt8.ofNat (N / 256)) := bv_div N 256
      obtain ⟨v', w2, ea, S2, ow, fr⟩ := append_one (P := Try.prog) S 62 62 (.int .u8 0) 1 Try.underlying62 Crc.info_u8 rfl (.int .u8 ((N : Int) / 256 % 256)) rfl (by unfold maxLen; omega) (by omega)
      obtain ⟨V2, vc2, rfl⟩ := slc_val S2
      have EA := Lib.hid ea
      have SX := Lib.hid (show Slc w2 5 1 (.slice V2 (6 + 1) vc2) (6 + 1) (bvs (beK N (6 + 1))) from by
        rw [hx] at S2
        rw [beK_snoc, bvs_append]
        exact S2)
      have OX := Lib.hid (O.trans (ow.below_of O.size F.out))
      have FX := Lib.hid (show ∀ x ∈ ownB (.slice V2 (6 + 1) vc2), w.heap.size ≤ x from fun x hx => (fr x hx).elim (F.out x) (fun h => Nat.le_trans O.size h))
      clear hx ea S S2 ow fr O
      go_wp2_with fail
      rw [EA.out]
      go_wp2_with fail
      go_roundw
      case rel => exact ⟨6 + 1, by omega, by first | rfl | simp, SX.out, OX.out, FX⟩
      case measure => first | decide | simp [intOf]
    · have hx : Value.int .u8 ((N : Int) % 256) = bv (UInt8.ofNat N) := bv_mod N
      obtain ⟨v', w2, ea, S2, ow, fr⟩ := append_one (P := Try.prog) S 62 62 (.int .u8 0) 1 Try.underlying62 Crc.info_u8 rfl (.int .u8 ((N : Int) % 256)) rfl (by unfold maxLen; omega) (by omega)
      obtain ⟨V2, vc2, rfl⟩ := slc_val S2
      have EA := Lib.hid ea
      have SX := Lib.hid (show Slc w2 5 1 (.slice V2 (7 + 1) vc2) (7 + 1) (bvs (beK N (7 + 1))) from by
        rw [hx] at S2
        rw [beK_snoc, bvs_append]
        exact (by rw [Nat.sub_self, Nat.pow_zero, Nat.div_one]; exact S2))
      have OX := Lib.hid (O.trans (ow.below_of O.size F.out))
      have FX := Lib.hid (show ∀ x ∈ ownB (.slice V2 (7 + 1) vc2), w.heap.size ≤ x from fun x hx => (fr x hx).elim (F.out x) (fun h => Nat.le_trans O.size h))
      clear hx ea S S2 ow fr O
      go_wp2_with fail
      rw [EA.out]
      go_wp2_with fail
      go_roundw
      case rel => exact ⟨7 + 1, by omega, by first | rfl | simp, SX.out, OX.out, FX⟩
      case measure => first | decide | simp [intOf]
    · have SX := Lib.hid S
      have OX := Lib.hid O
      clear S O
      go_wp2_with fail
      go_ret
      exact ⟨⟨_, rfl, SX.out⟩, OX.out⟩
/-- a signed number's eight bytes -/
def packI (n : Int) : List UInt8 := be8 ((n + 9223372036854775808) % 18446744073709551616).toNat
set_option maxRecDepth 100000 in
set_option maxHeartbeats 4000000 in
theorem I_any (n : Int) (h0 : 0 ≤ n) (h1 : n ≤ 1099511627776) (w : World) :
    Calls Try.prog 33 #[.int .i64 n] w fun e w' => e = .returned (.string ⟨(packI n).toArray⟩) ∧ Below w.heap.size w w' := by
  obtain ⟨m, rfl⟩ := Int.eq_ofNat_of_zero_le h0
  have hN : (((m : Int) + 9223372036854775808) % 18446744073709551616).toNat = m + 9223372036854775808 := by omega
  have hNI : ((m + 9223372036854775808 : Nat) : Int) = (m : Int) + 9223372036854775808 := by omega
  have K := Lib.hid (put_any (m + 9223372036854775808) (by omega) w)
  rw [hNI] at K
  unfold packI
  rw [hN]
  have e1 : IntKind.u64.wrap (m : Int) = (m : Int) := IntWalk.u64_in _ (by omega)
  have e2 : IntKind.u64.wrap ((m : Int) + 9223372036854775808) = (m : Int) + 9223372036854775808 := IntWalk.u64_in _ (by omega)
  clear hN hNI
  go_enter Try.func33, Try.ntmps33
  go_wp2_with fail
  refine K.out.mono ?_
  rintro e w1 ⟨⟨v, rfl, S⟩, hb⟩
  obtain ⟨g, cap, rest, rfl, B, hc, _⟩ := S.form (by omega) (by omega)
  have ST := Lib.hid (run_string_of (P := Try.prog) w1 62 9 5 Try.underlying62 Try.underlying5 Try.underlying9 ⟨g, 0, none⟩ 8 cap (be8 (m + 9223372036854775808)) rfl (cells_at B 0 _ (by intro j u hu; rw [Nat.zero_add]; exact List.getElem?_append_left (List.getElem?_eq_some_iff.1 hu).1 ▸ hu)))
  have HB := Lib.hid hb
  clear hb S B
  go_wp2_with fail
  rw [ST.out]
  go_wp2_with fail
  go_ret
  exact ⟨rfl, HB.out⟩
end Go.Proofs.Ytmofbgcanehdoaa.Pk
