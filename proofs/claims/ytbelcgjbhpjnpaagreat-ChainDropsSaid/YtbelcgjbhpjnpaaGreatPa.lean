/- pack: numbers laid as eight bytes. -/
import Derived.Test.YtbelcgjbhpjnpaaGreatCa
import Derived.Test.YtbelcgjbhpjnpaaGreatKa
import Derived.Laws.Bits64b
set_option linter.all false
set_option linter.unusedVariables false
set_option linter.unusedSimpArgs false
set_option maxRecDepth 100000
namespace Go.Proofs.YtbelcgjbhpjnpaaGreat.Pk
open Go.RowKit
attribute [local go_sem ↓] exec_app
/-- the first k of the eight bytes of a number, the highest first -/
def beK (N k : Nat) : List UInt8 := (List.range k).map fun j => UInt8.ofNat (N / 256 ^ (7 - j))
def be8 (N : Nat) : List UInt8 := beK N 8
theorem beK_snoc (N k : Nat) : beK N (k + 1) = beK N k ++ [UInt8.ofNat (N / 256 ^ (7 - k))] := by
 unfold beK
 rw [List.range_succ, List.map_append]; rfl
theorem beK_length (N k : Nat) : (beK N k).length = k := by simp [beK]
theorem bv_mod (n : Nat) : Value.int .u8 ((n : Int) % 256) = bv (UInt8.ofNat n) := by
 unfold bv
 congr 1
theorem bv_div (N p : Nat) : Value.int .u8 ((N : Int) / (p : Int) % 256) = bv (UInt8.ofNat (N / p)) := by
 rw [← Int.natCast_ediv]; exact bv_mod _
set_option maxRecDepth 100000 in
set_option maxHeartbeats 4000000 in
theorem put_any (N : Nat) (hN : N < 18446744073709551616) (w : World) :
  Calls Tryz.prog 200 #[.slice none 0 0, .int .u64 (N : Int), .int .i64 8] w fun e w' => (∃ v, e = .returned v ∧ Slc w' 5 1 v 8 (bvs (be8 N))) ∧ Below w.heap.size w w' := by
 go_enter Tryz.func200, Tryz.ntmps200
 go_wp2_with fail
 go_loopw [0, 7] (fun sv iv wr => ∃ (k : Nat), k ≤ 8 ∧ iv = .int .i64 (7 - (k : Int)) ∧ Slc wr 5 1 sv k (bvs (beK N k)) ∧ Below w.heap.size w wr ∧ Hid (∀ x ∈ ownB sv, w.heap.size ≤ x)) (fun _ iv _ => (intOf iv + 1).toNat)
 case atStart => exact ⟨0, by omega, rfl, Slc.nil _ _ _, Below.refl _ _, Lib.hid (by simp [ownB])⟩
 case round =>
  obtain ⟨k, hk, rfl, S, O, F⟩ := hrel
  obtain ⟨VA, vc, rfl⟩ := slc_val S
  have hkk : k = 0 ∨ k = 1 ∨ k = 2 ∨ k = 3 ∨ k = 4 ∨ k = 5 ∨ k = 6 ∨ k = 7 ∨ k = 8 := by omega
  rcases hkk with rfl | rfl | rfl | rfl | rfl | rfl | rfl | rfl | rfl
  ·have hx : Value.int .u8 ((N : Int) / 72057594037927936) = bv (UInt8.ofNat (N / 72057594037927936)) := by rw [← bv_div N 72057594037927936]; congr 1; omega
   obtain ⟨v', w2, ea, S2, ow, fr⟩ := append_one (P := Tryz.prog) S 141 141 (.int .u8 0) 1 Tryz.underlying141 Crc.info_u8 rfl (.int .u8 ((N : Int) / 72057594037927936)) rfl (by unfold maxLen; omega) (by omega)
   obtain ⟨V2, vc2, rfl⟩ := slc_val S2
   have EA := Lib.hid ea
   have SX := Lib.hid (show Slc w2 5 1 (.slice V2 (0 + 1) vc2) (0 + 1) (bvs (beK N (0 + 1))) from by
    rw [hx] at S2
    rw [beK_snoc, bvs_append]
    exact S2)
   have OX := Lib.hid (O.trans (ow.below_of O.size F.out))
   have FX := Lib.hid (show ∀ x ∈ ownB (.slice V2 (0 + 1) vc2), w.heap.size ≤ x from fun x hx => (fr x hx).elim (F.out x) (fun h => Nat.le_trans O.size h))
   clear hx ea S S2 ow fr O
   go_wp2_with fail
   rw [EA.out]
   go_wp2_with fail
   go_roundw
   case rel => exact ⟨0 + 1, by omega, by first | rfl | simp, SX.out, OX.out, FX⟩
   case measure => first | decide | simp [intOf]
  ·have hx : Value.int .u8 ((N : Int) / 281474976710656 % 256) = bv (UInt8.ofNat (N / 281474976710656)) := bv_div N 281474976710656
   obtain ⟨v', w2, ea, S2, ow, fr⟩ := append_one (P := Tryz.prog) S 141 141 (.int .u8 0) 1 Tryz.underlying141 Crc.info_u8 rfl (.int .u8 ((N : Int) / 281474976710656 % 256)) rfl (by unfold maxLen; omega) (by omega)
   obtain ⟨V2, vc2, rfl⟩ := slc_val S2
   have EA := Lib.hid ea
   have SX := Lib.hid (show Slc w2 5 1 (.slice V2 (1 + 1) vc2) (1 + 1) (bvs (beK N (1 + 1))) from by
    rw [hx] at S2
    rw [beK_snoc, bvs_append]
    exact S2)
   have OX := Lib.hid (O.trans (ow.below_of O.size F.out))
   have FX := Lib.hid (show ∀ x ∈ ownB (.slice V2 (1 + 1) vc2), w.heap.size ≤ x from fun x hx => (fr x hx).elim (F.out x) (fun h => Nat.le_trans O.size h))
   clear hx ea S S2 ow fr O
   go_wp2_with fail
   rw [EA.out]
   go_wp2_with fail
   go_roundw
   case rel => exact ⟨1 + 1, by omega, by first | rfl | simp, SX.out, OX.out, FX⟩
   case measure => first | decide | simp [intOf]
  ·have hx : Value.int .u8 ((N : Int) / 1099511627776 % 256) = bv (UInt8.ofNat (N / 1099511627776)) := bv_div N 1099511627776
   obtain ⟨v', w2, ea, S2, ow, fr⟩ := append_one (P := Tryz.prog) S 141 141 (.int .u8 0) 1 Tryz.underlying141 Crc.info_u8 rfl (.int .u8 ((N : Int) / 1099511627776 % 256)) rfl (by unfold maxLen; omega) (by omega)
   obtain ⟨V2, vc2, rfl⟩ := slc_val S2
   have EA := Lib.hid ea
   have SX := Lib.hid (show Slc w2 5 1 (.slice V2 (2 + 1) vc2) (2 + 1) (bvs (beK N (2 + 1))) from by
    rw [hx] at S2
    rw [beK_snoc, bvs_append]
    exact S2)
   have OX := Lib.hid (O.trans (ow.below_of O.size F.out))
   have FX := Lib.hid (show ∀ x ∈ ownB (.slice V2 (2 + 1) vc2), w.heap.size ≤ x from fun x hx => (fr x hx).elim (F.out x) (fun h => Nat.le_trans O.size h))
   clear hx ea S S2 ow fr O
   go_wp2_with fail
   rw [EA.out]
   go_wp2_with fail
   go_roundw
   case rel => exact ⟨2 + 1, by omega, by first | rfl | simp, SX.out, OX.out, FX⟩
   case measure => first | decide | simp [intOf]
  ·have hx : Value.int .u8 ((N : Int) / 4294967296 % 256) = bv (UInt8.ofNat (N / 4294967296)) := bv_div N 4294967296
   obtain ⟨v', w2, ea, S2, ow, fr⟩ := append_one (P := Tryz.prog) S 141 141 (.int .u8 0) 1 Tryz.underlying141 Crc.info_u8 rfl (.int .u8 ((N : Int) / 4294967296 % 256)) rfl (by unfold maxLen; omega) (by omega)
   obtain ⟨V2, vc2, rfl⟩ := slc_val S2
   have EA := Lib.hid ea
   have SX := Lib.hid (show Slc w2 5 1 (.slice V2 (3 + 1) vc2) (3 + 1) (bvs (beK N (3 + 1))) from by
    rw [hx] at S2
    rw [beK_snoc, bvs_append]
    exact S2)
   have OX := Lib.hid (O.trans (ow.below_of O.size F.out))
   have FX := Lib.hid (show ∀ x ∈ ownB (.slice V2 (3 + 1) vc2), w.heap.size ≤ x from fun x hx => (fr x hx).elim (F.out x) (fun h => Nat.le_trans O.size h))
   clear hx ea S S2 ow fr O
   go_wp2_with fail
   rw [EA.out]
   go_wp2_with fail
   go_roundw
   case rel => exact ⟨3 + 1, by omega, by first | rfl | simp, SX.out, OX.out, FX⟩
   case measure => first | decide | simp [intOf]
  ·have hx : Value.int .u8 ((N : Int) / 16777216 % 256) = bv (UInt8.ofNat (N / 16777216)) := bv_div N 16777216
   obtain ⟨v', w2, ea, S2, ow, fr⟩ := append_one (P := Tryz.prog) S 141 141 (.int .u8 0) 1 Tryz.underlying141 Crc.info_u8 rfl (.int .u8 ((N : Int) / 16777216 % 256)) rfl (by unfold maxLen; omega) (by omega)
   obtain ⟨V2, vc2, rfl⟩ := slc_val S2
   have EA := Lib.hid ea
   have SX := Lib.hid (show Slc w2 5 1 (.slice V2 (4 + 1) vc2) (4 + 1) (bvs (beK N (4 + 1))) from by
    rw [hx] at S2
    rw [beK_snoc, bvs_append]
    exact S2)
   have OX := Lib.hid (O.trans (ow.below_of O.size F.out))
   have FX := Lib.hid (show ∀ x ∈ ownB (.slice V2 (4 + 1) vc2), w.heap.size ≤ x from fun x hx => (fr x hx).elim (F.out x) (fun h => Nat.le_trans O.size h))
   clear hx ea S S2 ow fr O
   go_wp2_with fail
   rw [EA.out]
   go_wp2_with fail
   go_roundw
   case rel => exact ⟨4 + 1, by omega, by first | rfl | simp, SX.out, OX.out, FX⟩
   case measure => first | decide | simp [intOf]
  ·have hx : Value.int .u8 ((N : Int) / 65536 % 256) = bv (UInt8.ofNat (N / 65536)) := bv_div N 65536
   obtain ⟨v', w2, ea, S2, ow, fr⟩ := append_one (P := Tryz.prog) S 141 141 (.int .u8 0) 1 Tryz.underlying141 Crc.info_u8 rfl (.int .u8 ((N : Int) / 65536 % 256)) rfl (by unfold maxLen; omega) (by omega)
   obtain ⟨V2, vc2, rfl⟩ := slc_val S2
   have EA := Lib.hid ea
   have SX := Lib.hid (show Slc w2 5 1 (.slice V2 (5 + 1) vc2) (5 + 1) (bvs (beK N (5 + 1))) from by
    rw [hx] at S2
    rw [beK_snoc, bvs_append]
    exact S2)
   have OX := Lib.hid (O.trans (ow.below_of O.size F.out))
   have FX := Lib.hid (show ∀ x ∈ ownB (.slice V2 (5 + 1) vc2), w.heap.size ≤ x from fun x hx => (fr x hx).elim (F.out x) (fun h => Nat.le_trans O.size h))
   clear hx ea S S2 ow fr O
   go_wp2_with fail
   rw [EA.out]
   go_wp2_with fail
   go_roundw
   case rel => exact ⟨5 + 1, by omega, by first | rfl | simp, SX.out, OX.out, FX⟩
   case measure => first | decide | simp [intOf]
  ·have hx : Value.int .u8 ((N : Int) / 256 % 256) = bv (UInt8.ofNat (N / 256)) := bv_div N 256
   obtain ⟨v', w2, ea, S2, ow, fr⟩ := append_one (P := Tryz.prog) S 141 141 (.int .u8 0) 1 Tryz.underlying141 Crc.info_u8 rfl (.int .u8 ((N : Int) / 256 % 256)) rfl (by unfold maxLen; omega) (by omega)
   obtain ⟨V2, vc2, rfl⟩ := slc_val S2
   have EA := Lib.hid ea
   have SX := Lib.hid (show Slc w2 5 1 (.slice V2 (6 + 1) vc2) (6 + 1) (bvs (beK N (6 + 1))) from by
    rw [hx] at S2
    rw [beK_snoc, bvs_append]
    exact S2)
   have OX := Lib.hid (O.trans (ow.below_of O.size F.out))
   have FX := Lib.hid (show ∀ x ∈ ownB (.slice V2 (6 + 1) vc2), w.heap.size ≤ x from fun x hx => (fr x hx).elim (F.out x) (fun h => Nat.le_trans O.size h))
   clear hx ea S S2 ow fr O
   go_wp2_with fail
   rw [EA.out]
   go_wp2_with fail
   go_roundw
   case rel => exact ⟨6 + 1, by omega, by first | rfl | simp, SX.out, OX.out, FX⟩
   case measure => first | decide | simp [intOf]
  ·have hx : Value.int .u8 ((N : Int) % 256) = bv (UInt8.ofNat N) := bv_mod N
   obtain ⟨v', w2, ea, S2, ow, fr⟩ := append_one (P := Tryz.prog) S 141 141 (.int .u8 0) 1 Tryz.underlying141 Crc.info_u8 rfl (.int .u8 ((N : Int) % 256)) rfl (by unfold maxLen; omega) (by omega)
   obtain ⟨V2, vc2, rfl⟩ := slc_val S2
   have EA := Lib.hid ea
   have SX := Lib.hid (show Slc w2 5 1 (.slice V2 (7 + 1) vc2) (7 + 1) (bvs (beK N (7 + 1))) from by
    rw [hx] at S2
    rw [beK_snoc, bvs_append]
    exact (by rw [Nat.sub_self, Nat.pow_zero, Nat.div_one]; exact S2))
   have OX := Lib.hid (O.trans (ow.below_of O.size F.out))
   have FX := Lib.hid (show ∀ x ∈ ownB (.slice V2 (7 + 1) vc2), w.heap.size ≤ x from fun x hx => (fr x hx).elim (F.out x) (fun h => Nat.le_trans O.size h))
   clear hx ea S S2 ow fr O
   go_wp2_with fail
   rw [EA.out]
   go_wp2_with fail
   go_roundw
   case rel => exact ⟨7 + 1, by omega, by first | rfl | simp, SX.out, OX.out, FX⟩
   case measure => first | decide | simp [intOf]
  ·have SX := Lib.hid S
   have OX := Lib.hid O
   clear S O
   go_wp2_with fail
   go_ret
   exact ⟨⟨_, rfl, SX.out⟩, OX.out⟩
/-- a signed number's eight bytes -/
def packI (n : Int) : List UInt8 := be8 ((n + 9223372036854775808) % 18446744073709551616).toNat
set_option maxRecDepth 100000 in
set_option maxHeartbeats 4000000 in
theorem I_any (n : Int) (h0 : 0 ≤ n) (h1 : n ≤ 1099511627776) (w : World) :
  Calls Tryz.prog 160 #[.int .i64 n] w fun e w' => e = .returned (.string ⟨(packI n).toArray⟩) ∧ Below w.heap.size w w' := by
 obtain ⟨m, rfl⟩ := Int.eq_ofNat_of_zero_le h0
 have hN : (((m : Int) + 9223372036854775808) % 18446744073709551616).toNat = m + 9223372036854775808 := by omega
 have hNI : ((m + 9223372036854775808 : Nat) : Int) = (m : Int) + 9223372036854775808 := by omega
 have K := Lib.hid (put_any (m + 9223372036854775808) (by omega) w)
 rw [hNI] at K
 unfold packI
 rw [hN]
 have e1 : IntKind.u64.wrap (m : Int) = (m : Int) := IntWalk.u64_in _ (by omega)
 have e2 : IntKind.u64.wrap ((m : Int) + 9223372036854775808) = (m : Int) + 9223372036854775808 := IntWalk.u64_in _ (by omega)
 clear hN hNI
 go_enter Tryz.func160, Tryz.ntmps160
 go_wp2_with fail
 refine K.out.mono ?_
 rintro e w1 ⟨⟨v, rfl, S⟩, hb⟩
 obtain ⟨g, cap, rest, rfl, B, hc, _⟩ := S.form (by omega) (by omega)
 have ST := Lib.hid (run_string_of (P := Tryz.prog) w1 141 9 5 Tryz.underlying141 Tryz.underlying5 Tryz.underlying9 ⟨g, 0, none⟩ 8 cap (be8 (m + 9223372036854775808)) rfl (cells_at B 0 _ (by intro j u hu; rw [Nat.zero_add]; exact List.getElem?_append_left (List.getElem?_eq_some_iff.1 hu).1 ▸ hu)))
 have HB := Lib.hid hb
 clear hb S B
 go_wp2_with fail
 rw [ST.out]
 go_wp2_with fail
 go_ret
 exact ⟨rfl, HB.out⟩
end Go.Proofs.YtbelcgjbhpjnpaaGreat.Pk

/- pack: numbers read. -/
namespace Go.Proofs.YtbelcgjbhpjnpaaGreat.Pk
open Go.RowKit
/-- the number of bytes, the highest first -/
def beN (l : List UInt8) : Nat := l.foldl (fun n b => n * 256 + b.toNat) 0
theorem beN_snoc (l : List UInt8) (b : UInt8) : beN (l ++ [b]) = beN l * 256 + b.toNat := by simp [beN]
theorem beN_lt' (l : List UInt8) : ∀ n : Nat, l.foldl (fun n b => n * 256 + b.toNat) n < (n + 1) * 256 ^ l.length := by
 induction l with
 | nil => intro n; simp
 | cons b l ih =>
  intro n
  have h1 := ih (n * 256 + b.toNat)
  have h2 := b.toNat_lt
  rw [List.foldl_cons, List.length_cons, Nat.pow_succ]
  refine Nat.lt_of_lt_of_le h1 ?_
  rw [show (n + 1) * (256 ^ l.length * 256) = ((n + 1) * 256) * 256 ^ l.length by rw [Nat.mul_assoc, Nat.mul_comm (256 ^ l.length) 256]]
  exact Nat.mul_le_mul_right _ (by omega)
theorem beN_lt (l : List UInt8) : beN l < 256 ^ l.length := by
 have := beN_lt' l 0
 rw [Nat.zero_add, Nat.one_mul] at this
 exact this
theorem or_join (n b : Nat) (hn : n < 72057594037927936) (hb : b < 256) : bits .or .u64 ((n : Int) * 256) (b : Int) = ((n * 256 + b : Nat) : Int) := by
 have h := bits_or_u64_nat (n * 256) b (by omega) (by omega)
 rw [show ((n * 256 : Nat) : Int) = (n : Int) * 256 by omega] at h
 rw [h]
 have := Nat.two_pow_add_eq_or_of_lt (i := 8) hb n
 rw [show 2 ^ 8 * n = n * 256 by omega] at this
 rw [← this]
set_option maxRecDepth 100000 in
set_option maxHeartbeats 4000000 in
theorem get_any (s : ByteArray) (hs : s.size = 8) (w : World) :
  Calls Tryz.prog 209 #[.string s] w fun e w' => e = .returned (.int .u64 (beN s.data.toList : Nat)) ∧ Below w.heap.size w w' := by
 have HL := Lib.hid (show s.data.toList.length = 8 from by simpa using hs)
 go_enter Tryz.func209, Tryz.ntmps209
 go_wp2_with fail
 go_loopw [3, 7] (fun nv iv wr => ∃ (i : Nat), i ≤ 8 ∧ nv = .int .u64 (beN (s.data.toList.take i) : Nat) ∧ iv = .int .i64 i ∧ Below w.heap.size w wr) (fun _ iv _ => 8 - (intOf iv).toNat)
 case atStart => exact ⟨0, by omega, by simp [beN], rfl, Below.refl _ _⟩
 case round =>
  obtain ⟨i, hi, rfl, rfl, O⟩ := hrel
  by_cases h : i < 8
  ·have hsi : i < s.size := by omega
   have hlen := HL.out
   have hT : s.data.toList.take (i + 1) = s.data.toList.take i ++ [s[i]] := by
    rw [List.take_succ_eq_append_getElem (by omega)]; rfl
   have hlt := beN_lt (s.data.toList.take i)
   rw [List.length_take] at hlt
   have hlt2 : beN (s.data.toList.take i) < 72057594037927936 := Nat.lt_of_lt_of_le hlt (Nat.le_trans (Nat.pow_le_pow_right (by omega) (show min i s.data.toList.length ≤ 7 by omega)) (by decide))
   have hN : beN (s.data.toList.take (i + 1)) = beN (s.data.toList.take i) * 256 + s[i].toNat := by rw [hT, beN_snoc]
   obtain ⟨n, hn⟩ : ∃ n, beN (s.data.toList.take i) = n := ⟨_, rfl⟩
   rw [hn] at hlt2 hN ⊢
   have hb := s[i].toNat_lt
   have HV := Lib.hid (or_join n s[i].toNat hlt2 hb)
   have HN := Lib.hid hN
   have hiI : (i : Int) < 8 := by omega
   have hiS : (i : Int) < (s.size : Int) := by omega
   have v1 : IntKind.u64.wrap (s[i].toNat : Int) = (s[i].toNat : Int) := IntWalk.u64_in _ (by omega)
   have v2 : IntKind.u64.wrap ((n : Int) * 256) = (n : Int) * 256 := IntWalk.u64_in _ (by omega)
   have OX := Lib.hid O
   clear hT hlt hN hn O
   go_wp2_with fail
   rw [HV.out]
   exact ⟨⟨i + 1, by omega, by rw [HN.out], by go_num, OX.out⟩, by simp [intOf]; omega⟩
  ·obtain rfl : i = 8 := by omega
   have hlen := HL.out
   have OX := Lib.hid O
   rw [List.take_of_length_le (by omega)]
   clear O
   go_wp2_with fail
   go_ret
   exact ⟨rfl, OX.out⟩
set_option maxHeartbeats 2000000 in
theorem left_any (s : ByteArray) (at_ n : Int) (w : World) (h0 : 0 ≤ at_) (h1 : at_ + n ≤ s.size) (hn : 0 ≤ n) (hs : s.size ≤ 1000000) :
  Calls Tryz.prog 208 #[.string s, .int .i64 at_, .int .i64 n] w fun e w' => e = .returned (.int .i64 0) ∧ Below w.heap.size w w' := by
 have a1 : ¬ at_ < 0 := by omega
 have a2 : ¬ (s.size : Int) < at_ := by omega
 have a3 : IntKind.i64.wrap ((s.size : Int) - at_) = (s.size : Int) - at_ := IntWalk.i64_in _ (by omega)
 have a4 : ¬ (s.size : Int) - at_ < n := by omega
 go_enter Tryz.func208, Tryz.ntmps208
 go_wp2_with fail
 go_ret
 exact ⟨rfl, Below.refl _ _⟩
set_option maxHeartbeats 2000000 in
theorem readU_any (s : ByteArray) (k : Nat) (w : World) (h1 : k + 8 ≤ s.size) (hs : s.size ≤ 1000000) :
  Calls Tryz.prog 194 #[.string s, .int .i64 (k : Nat)] w fun e w' => e = .returned (.tuple #[.int .u64 (beN ((s.extract k (k + 8)).data.toList) : Nat), .int .i64 ((k : Int) + 8), .int .i64 0]) ∧ Below w.heap.size w w' := by
 have hsz : (s.extract k (k + 8)).size = 8 := by rw [ByteArray.size_extract]; omega
 have KL := Lib.hid (left_any s (k : Nat) 8 w (by omega) (by omega) (by omega) hs)
 have KG := Lib.hid (fun w => get_any (s.extract k (k + 8)) hsz w)
 obtain ⟨N, hN⟩ : ∃ N, beN ((s.extract k (k + 8)).data.toList) = N := ⟨_, rfl⟩
 rw [hN] at KG ⊢
 clear hN
 have e1 : IntKind.i64.wrap ((k : Int) + 8) = (k : Int) + 8 := IntWalk.i64_in _ (by omega)
 have e2 : (0 : Int) ≤ (k : Int) + 8 := by omega
 have e3 : ((k : Int) + 8).toNat = k + 8 := by omega
 have e4 : (k : Int) ≤ (k : Int) + 8 := by omega
 have e5 : (k : Int) + 8 ≤ (s.size : Int) := by omega
 go_enter Tryz.func194, Tryz.ntmps194
 go_wp2_with fail
 refine KL.out.mono ?_
 rintro e w1 ⟨rfl, hb1⟩
 have O1 := Lib.hid hb1
 clear hb1
 go_wp2_with fail
 refine (KG.out _).mono ?_
 rintro e w2 ⟨rfl, hb2⟩
 have O2 := Lib.hid (bstep O1.out hb2)
 clear hb2
 go_wp2_with fail
 go_ret3
 exact ⟨rfl, O2.out⟩
set_option maxHeartbeats 2000000 in
theorem readI_any (s : ByteArray) (k : Nat) (w : World) (h1 : k + 8 ≤ s.size) (hs : s.size ≤ 1000000) :
  Calls Tryz.prog 193 #[.string s, .int .i64 (k : Nat)] w fun e w' => e = .returned (.tuple #[.int .i64 ((beN ((s.extract k (k + 8)).data.toList) : Int) - 9223372036854775808), .int .i64 ((k : Int) + 8), .int .i64 0]) ∧ Below w.heap.size w w' := by
 have hsz : (s.extract k (k + 8)).size = 8 := by rw [ByteArray.size_extract]; omega
 have hlt := beN_lt (s.extract k (k + 8)).data.toList
 rw [show (s.extract k (k + 8)).data.toList.length = 8 from hsz] at hlt
 have KU := Lib.hid (readU_any s k w h1 hs)
 obtain ⟨N, hN⟩ : ∃ N, beN ((s.extract k (k + 8)).data.toList) = N := ⟨_, rfl⟩
 rw [hN] at KU hlt ⊢
 have HV := Lib.hid (show wrap64 (IntKind.u64.wrap ((N : Int) + 9223372036854775808)) = (N : Int) - 9223372036854775808 from by
  rw [IntKind.wrap_u64]; unfold wrap64; omega)
 clear hN hlt hsz
 go_enter Tryz.func193, Tryz.ntmps193
 go_wp2_with fail
 refine KU.out.mono ?_
 rintro e w1 ⟨rfl, hb1⟩
 have O1 := Lib.hid hb1
 clear hb1
 go_wp2_with fail
 go_ret3
 refine ⟨?_, O1.out⟩
 have hv := HV.out
 simp only [Array.getD_eq_getD_getElem?, List.getElem?_toArray, List.getElem?_cons_succ, List.getElem?_cons_zero, Option.getD_some, hv]
end Go.Proofs.YtbelcgjbhpjnpaaGreat.Pk
