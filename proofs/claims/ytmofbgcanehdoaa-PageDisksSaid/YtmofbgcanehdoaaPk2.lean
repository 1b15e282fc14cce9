/- pack: numbers read. -/
import Derived.Test.YtmofbgcanehdoaaPk
import Derived.Laws.Bits64b
namespace Go.Proofs.Ytmofbgcanehdoaa.Pk
open Go.RowKit
/-- the number of bytes, the highest first -/
def beN (l : List UInt8) : Nat := l.foldl (fun n b => n * 256 + b.toNat) 0
theorem beN_snoc (l : List UInt8) (b : UInt8) : beN (l ++ [b]) = beN l * 256 + b.toNat := by simp [beN]
theorem beN_lt' (l : List UInt8) : ∀ n : Nat, l.foldl (fun n b => n * 256 + b.toNat) n < (n + 1) * 256 ^ l.length := by
  induction l with
  | nil => intro n; simp
  | cons b l ih =>
    intro n
    have h1 := ih (n * 256 + b.toNat)
    have h2 := b.toNat_lt
    rw [List.foldl_cons, List.length_cons, Nat.pow_succ]
    refine Nat.lt_of_lt_of_le h1 ?_
    rw [show (n + 1) * (256 ^ l.length * 256) = ((n + 1) * 256) * 256 ^ l.length by rw [Nat.mul_assoc, Nat.mul_comm (256 ^ l.length) 256]]
    exact Nat.mul_le_mul_right _ (by omega)
theorem beN_lt (l : List UInt8) : beN l < 256 ^ l.length := by
  have := beN_lt' l 0
  rw [Nat.zero_add, Nat.one_mul] at this
  exact this
theorem or_join (n b : Nat) (hn : n < 72057594037927936) (hb : b < 256) : bits .or .u64 ((n : Int) * 256) (b : Int) = ((n * 256 + b : Nat) : Int) := by
  have h := bits_or_u64_nat (n * 256) b (by omega) (by omega)
  rw [show ((n * 256 : Nat) : Int) = (n : Int) * 256 by omega] at h
  rw [h]
  have := Nat.two_pow_add_eq_or_of_lt (i := 8) hb n
  rw [show 2 ^ 8 * n = n * 256 by omega] at this
  rw [← this]
set_option maxRecDepth 100000 in
set_option maxHeartbeats 4000000 in
theorem get_any (s : ByteArray) (hs : s.size = 8) (w : World) :
    Calls Try.prog 58 #[.string s] w fun e w' => e = .returned (.int .u64 (beN s.data.toList : Nat)) ∧ Below w.heap.size w w' := by
  have HL := Lib.hid (show s.data.toList.length = 8 from by simpa using hs)
  go_enter Try.func58, Try.ntmps58
  go_wp2_with fail
  go_loopw [3, 7] (fun nv iv wr => ∃ (i : Nat), i ≤ 8 ∧ nv = .int .u64 (beN (s.data.toList.take i) : Nat) ∧ iv = .int .i64 i ∧ Below w.heap.size w wr) (fun _ iv _ => 8 - (intOf iv).toNat)
  case atStart => exact ⟨0, by omega, by simp [beN], rfl, Below.refl _ _⟩
  case round =>
    obtain ⟨i, hi, rfl, rfl, O⟩ := hrel
    by_cases h : i < 8
    · have hsi : i < s.size := by omega
      have hlen := HL.out
      have hT : s.data.toList.take (i + 1) = s.data.toList.take i ++ [s[i]] := by
        rw [List.take_succ_eq_append_getElem (by omega)]; rfl
      have hlt := beN_lt (s.data.toList.take i)
      rw [List.length_take] at hlt
      have hlt2 : beN (s.data.toList.take i) < 72057594037927936 := Nat.lt_of_lt_of_le hlt (Nat.le_trans (Nat.pow_le_pow_right (by omega) (show min i s.data.toList.length ≤ 7 by omega)) (by decide))
      have hN : beN (s.data.toList.take (i + 1)) = beN (s.data.toList.take i) * 256 + s[i].toNat := by rw [hT, beN_snoc]
      obtain ⟨n, hn⟩ : ∃ n, beN (s.data.toList.take i) = n := ⟨_, rfl⟩
      rw [hn] at hlt2 hN ⊢
      have hb := s[i].toNat_lt
      have HV := Lib.hid (or_join n s[i].toNat hlt2 hb)
      have HN := Lib.hid hN
      have hiI : (i : Int) < 8 := by omega
      have hiS : (i : Int) < (s.size : Int) := by omega
      have v1 : IntKind.u64.wrap (s[i].toNat : Int) = (s[i].toNat : Int) := IntWalk.u64_in _ (by omega)
      have v2 : IntKind.u64.wrap ((n : Int) * 256) = (n : Int) * 256 := IntWalk.u64_in _ (by omega)
      have OX := Lib.hid O
      clear hT hlt hN hn O
      go_wp2_with fail
      rw [HV.out]
      exact ⟨⟨i + 1, by omega, by rw [HN.out], by go_num, OX.out⟩, by simp [intOf]; omega⟩
    · obtain rfl : i = 8 := by omega
      have hlen := HL.out
      have OX := Lib.hid O
      rw [List.take_of_length_le (by omega)]
      clear O
      go_wp2_with fail
      go_ret
      exact ⟨rfl, OX.out⟩
set_option maxHeartbeats 2000000 in
theorem left_any (s : ByteArray) (at_ n : Int) (w : World) (h0 : 0 ≤ at_) (h1 : at_ + n ≤ s.size) (hn : 0 ≤ n) (hs : s.size ≤ 1000000) :
    Calls Try.prog 57 #[.string s, .int .i64 at_, .int .i64 n] w fun e w' => e = .returned (.int .i64 0) ∧ Below w.heap.size w w' := by
  have a1 : ¬ at_ < 0 := by omega
  have a2 : ¬ (s.size : Int) < at_ := by omega
  have a3 : IntKind.i64.wrap ((s.size : Int) - at_) = (s.size : Int) - at_ := IntWalk.i64_in _ (by omega)
  have a4 : ¬ (s.size : Int) - at_ < n := by omega
  go_enter Try.func57, Try.ntmps57
  go_wp2_with fail
  go_ret
  exact ⟨rfl, Below.refl _ _⟩
set_option maxHeartbeats 2000000 in
theorem readU_any (s : ByteArray) (k : Nat) (w : World) (h1 : k + 8 ≤ s.size) (hs : s.size ≤ 1000000) :
    Calls Try.prog 40 #[.string s, .int .i64 (k : Nat)] w fun e w' => e = .returned (.tuple #[.int .u64 (beN ((s.extract k (k + 8)).data.toList) : Nat), .int .i64 ((k : Int) + 8), .int .i64 0]) ∧ Below w.heap.size w w' := by
  have hsz : (s.extract k (k + 8)).size = 8 := by rw [ByteArray.size_extract]; omega
  have KL := Lib.hid (left_any s (k : Nat) 8 w (by omega) (by omega) (by omega) hs)
  have KG := Lib.hid (fun w => get_any (s.extract k (k + 8)) hsz w)
  obtain ⟨N, hN⟩ : ∃ N, beN ((s.extract k (k + 8)).data.toList) = N := ⟨_, rfl⟩
  rw [hN] at KG ⊢
  clear hN
  have e1 : IntKind.i64.wrap ((k : Int) + 8) = (k : Int) + 8 := IntWalk.i64_in _ (by omega)
  have e2 : (0 : Int) ≤ (k : Int) + 8 := by omega
  have e3 : ((k : Int) + 8).toNat = k + 8 := by omega
  have e4 : (k : Int) ≤ (k : Int) + 8 := by omega
  have e5 : (k : Int) + 8 ≤ (s.size : Int) := by omega
  go_enter Try.func40, Try.ntmps40
  go_wp2_with fail
  refine KL.out.mono ?_
  rintro e w1 ⟨rfl, hb1⟩
  have O1 := Lib.hid hb1
  clear hb1
  go_wp2_with fail
  refine (KG.out _).mono ?_
  rintro e w2 ⟨rfl, hb2⟩
  have O2 := Lib.hid (bstep O1.out hb2)
  clear hb2
  go_wp2_with fail
  go_ret3
  exact ⟨rfl, O2.out⟩
set_option maxHeartbeats 2000000 in
theorem readI_any (s : ByteArray) (k : Nat) (w : World) (h1 : k + 8 ≤ s.size) (hs : s.size ≤ 1000000) :
    Calls Try.prog 39 #[.string s, .int .i64 (k : Nat)] w fun e w' => e = .returned (.tuple #[.int .i64 ((beN ((s.extract k (k + 8)).data.toList) : Int) - 9223372036854775808), .int .i64 ((k : Int) + 8), .int .i64 0]) ∧ Below w.heap.size w w' := by
  have hsz : (s.extract k (k + 8)).size = 8 := by rw [ByteArray.size_extract]; omega
  have hlt := beN_lt (s.extract k (k + 8)).data.toList
  rw [show (s.extract k (k + 8)).data.toList.length = 8 from hsz] at hlt
  have KU := Lib.hid (readU_any s k w h1 hs)
  obtain ⟨N, hN⟩ : ∃ N, beN ((s.extract k (k + 8)).data.toList) = N := ⟨_, rfl⟩
  rw [hN] at KU hlt ⊢
  have HV := Lib.hid (show wrap64 (IntKind.u64.wrap ((N : Int) + 9223372036854775808)) = (N : Int) - 9223372036854775808 from by
    rw [IntKind.wrap_u64]; unfold wrap64; omega)
  clear hN hlt hsz
  go_enter Try.func39, Try.ntmps39
  go_wp2_with fail
  refine KU.out.mono ?_
  rintro e w1 ⟨rfl, hb1⟩
  have O1 := Lib.hid hb1
  clear hb1
  go_wp2_with fail
  go_ret3
  refine ⟨?_, O1.out⟩
  have hv := HV.out
  simp only [Array.getD_eq_getD_getElem?, List.getElem?_toArray, List.getElem?_cons_succ, List.getElem?_cons_zero, Option.getD_some, hv]
end Go.Proofs.Ytmofbgcanehdoaa.Pk
