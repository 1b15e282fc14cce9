/- pages: the document's page, read. -/
import Derived.Test.YtmofbgcanehdoaaPg6
namespace Go.Proofs.Ytmofbgcanehdoaa.Pg
open Go.RowKit Pk
attribute [local go_sem ↓] Go.wp_at_zero Go.wp_at_succ
set_option maxRecDepth 100000 in
set_option maxHeartbeats 4000000 in
theorem rreadU_any (s : ByteArray) (k : Nat) (h1 : k + 8 ≤ s.size) (hs : s.size ≤ 1000000) (w : World) :
    Calls Try.prog 59 #[.string s, .int .i64 (k : Nat)] w fun e w' => e = .returned (.tuple #[.int .u64 (beN ((s.data.toList.drop k).take 8) : Nat), .int .i64 ((k : Int) + 8), .int .i64 0]) ∧ Below w.heap.size w w' := by
  have e1 : ¬ (k : Int) < 0 := by omega
  have e2 : ¬ (s.size : Int) < (k : Int) := by omega
  have e3 : IntKind.i64.wrap ((s.size : Int) - (k : Int)) = (s.size : Int) - (k : Int) := IntWalk.i64_in _ (by omega)
  have e4 : ¬ (s.size : Int) - (k : Int) < 8 := by omega
  have HL := Lib.hid (show ((s.data.toList.drop k).take 8).length = 8 from by simp; omega)
  go_enter Try.func59, Try.ntmps59
  go_wp2_with fail
  go_loopw [7, 8] (fun nv iv wr => ∃ i : Nat, i ≤ 8 ∧ nv = .int .u64 (beN (((s.data.toList.drop k).take 8).take i) : Nat) ∧ iv = .int .i64 i ∧ Below w.heap.size w wr) (fun _ iv _ => 8 - (intOf iv).toNat)
  case atStart => exact ⟨0, by omega, by simp [beN], rfl, Below.refl _ _⟩
  case round =>
    obtain ⟨i, hi, rfl, rfl, O⟩ := hrel
    have OO := Lib.hid O
    clear O
    by_cases h : i < 8
    · have hI : (i : Int) < 8 := by omega
      have hki : k + i < s.size := by omega
      have hT : ((s.data.toList.drop k).take 8).take (i + 1) = ((s.data.toList.drop k).take 8).take i ++ [s[k + i]] := by
        rw [List.take_succ_eq_append_getElem (by rw [HL.out]; omega)]
        congr 2
        rw [List.getElem_take, List.getElem_drop]; rfl
      have hlt := beN_lt (((s.data.toList.drop k).take 8).take i)
      have hlen : (((s.data.toList.drop k).take 8).take i).length = i := by rw [List.length_take, HL.out]; omega
      rw [hlen] at hlt
      have hp : 256 ^ i ≤ 256 ^ 7 := Nat.pow_le_pow_right (by omega) (by omega)
      have hB := beN_snoc (((s.data.toList.drop k).take 8).take i) s[k + i]
      rw [← hT] at hB
      have hb := s[k + i].toNat_lt
      generalize beN (((s.data.toList.drop k).take 8).take i) = M at *
      have HB := Lib.hid hB
      have hM : M < 72057594037927936 := by omega
      clear hB hT hlen hp hlt
      have f1 : IntKind.u64.wrap ((M : Int) * 256) = (M : Int) * 256 := IntWalk.u64_in _ (by omega)
      have f2 : IntKind.i64.wrap ((k : Int) + (i : Int)) = (k : Int) + (i : Int) := IntWalk.i64_in _ (by omega)
      have f3 : (0 : Int) ≤ (k : Int) + (i : Int) := by omega
      have f4 : ((k : Int) + (i : Int)).toNat = k + i := by omega
      have f5 : (k : Int) + (i : Int) < (s.size : Int) := by omega
      have f6 : IntKind.u64.wrap (s[k + i].toNat : Int) = (s[k + i].toNat : Int) := IntWalk.u64_in _ (by omega)
      have f7 : IntKind.u64.wrap ((M : Int) * 256 + (s[k + i].toNat : Int)) = (M : Int) * 256 + (s[k + i].toNat : Int) := IntWalk.u64_in _ (by omega)
      go_wp2_with fail
      go_roundw
      case rel => exact ⟨i + 1, by omega, by rw [HB.out]; simp, by go_num, OO.out⟩
      case measure => simp [intOf]; omega
    · obtain rfl : i = 8 := by omega
      have hT : ((s.data.toList.drop k).take 8).take 8 = (s.data.toList.drop k).take 8 := List.take_of_length_le (by rw [HL.out]; exact Nat.le_refl _)
      rw [hT]
      have f2 : IntKind.i64.wrap ((k : Int) + 8) = (k : Int) + 8 := IntWalk.i64_in _ (by omega)
      clear hT
      go_wp2_with fail
      go_ret3
      exact ⟨rfl, OO.out⟩
set_option maxRecDepth 100000 in
set_option maxHeartbeats 4000000 in
theorem rreadI_any (s : ByteArray) (k : Nat) (h1 : k + 8 ≤ s.size) (hs : s.size ≤ 1000000) (w : World) :
    Calls Try.prog 41 #[.string s, .int .i64 (k : Nat)] w fun e w' => e = .returned (.tuple #[.int .i64 ((beN ((s.data.toList.drop k).take 8) : Int) - 9223372036854775808), .int .i64 ((k : Int) + 8), .int .i64 0]) ∧ Below w.heap.size w w' := by
  have hlt := beN_lt ((s.data.toList.drop k).take 8)
  rw [show ((s.data.toList.drop k).take 8).length = 8 by simp; omega] at hlt
  have KU := Lib.hid (rreadU_any s k h1 hs w)
  generalize beN ((s.data.toList.drop k).take 8) = M at *
  have f1 : IntKind.i64.wrap (IntKind.u64.wrap ((M : Int) - 9223372036854775808)) = (M : Int) - 9223372036854775808 := by
    by_cases h : M < 9223372036854775808
    · have : IntKind.u64.wrap ((M : Int) - 9223372036854775808) = (M : Int) - 9223372036854775808 + 18446744073709551616 := by
        unfold IntKind.wrap; simp [IntKind.bits, IntKind.signed]; omega
      rw [this]
      unfold IntKind.wrap; simp [IntKind.bits, IntKind.signed]; omega
    · rw [IntWalk.u64_in _ (by omega), IntWalk.i64_in _ (by omega)]
  go_enter Try.func41, Try.ntmps41
  go_wp2_with fail
  refine KU.out.mono ?_
  rintro e w1 ⟨rfl, hb⟩
  have HB := Lib.hid hb
  clear hb
  go_wp2_with fail
  go_ret3
  exact ⟨by first | rfl | (simp; done) | (simp; omega), HB.out⟩
theorem toLb {a b : ByteArray} (h : a ≠ b) : (a.toList == b.toList) = false := by
  rw [beq_eq_false_iff_ne]
  intro e
  apply h
  apply ByteArray.ext
  have e2 : a.data.toList = b.data.toList := by rw [← bytes_toList, ← bytes_toList, e]
  exact Array.toList_inj.1 e2
theorem ba_list {a : ByteArray} {l : List UInt8} (h : a.data.toList = l) : a = ⟨l.toArray⟩ := by
  apply ByteArray.ext
  rw [← h]
theorem lay_sum (l : List UInt8) (h : 4 ≤ l.length) : Crc.layF (l.drop 4) = l ↔ Crc.fourL (Crc.sumF (l.drop 4)) = l.take 4 := by
  unfold Crc.layF
  constructor
  · intro e
    have := congrArg (List.take 4) e
    rw [List.take_append_of_le_length (by simp [Crc.fourL]), List.take_of_length_le (by simp [Crc.fourL])] at this
    exact this
  · intro e
    rw [e, List.take_append_drop]
set_option maxRecDepth 100000 in
set_option maxHeartbeats 2000000 in
theorem rget_len {w : World} (s : ByteArray) (h : s.size ≠ 256) :
    Calls Try.prog 13 #[.string s] w fun e w' => e = .returned (.tuple #[PG.zero.val, .int .i64 6]) ∧ Below w.heap.size w w' := by
  have B0 := Lib.hid (Blk.new w 23 zeroC)
  have O0 := Lib.hid (belowAlloc (Below.refl w.heap.size w) (.cells zeroC 23))
  have hI : ((s.size : Int) != 256) = true := by rw [bne_iff_ne]; omega
  go_enter Try.func13, Try.ntmps13
  go_wp2_with fail
  exact bodyPost_ret (results_cell_p rfl rfl B0.out) rfl ⟨rfl, O0.out⟩
set_option maxRecDepth 100000 in
set_option maxHeartbeats 2000000 in
theorem rget_corrupt {w : World} (s : ByteArray) (h : s.size = 256) (hc : Crc.fourL (Crc.sumF (s.data.toList.drop 4)) ≠ s.data.toList.take 4) :
    Calls Try.prog 13 #[.string s] w fun e w' => e = .returned (.tuple #[PG.zero.val, .int .i64 14]) ∧ Below w.heap.size w w' := by
  have B0 := Lib.hid (Blk.new w 23 zeroC)
  have O0 := Lib.hid (belowAlloc (Below.refl w.heap.size w) (.cells zeroC 23))
  have hI : ((s.size : Int) != 256) = false := by rw [bne_eq_false_iff_eq]; omega
  have hll : s.data.toList.length = 256 := by simpa using h
  have K := Crc.rlay_any (s.extract 4 256) (hs := by rw [ByteArray.size_extract]; omega)
  have hx : (s.extract 4 256).data.toList = s.data.toList.drop 4 := by rw [exl]; exact List.take_of_length_le (by simp; omega)
  rw [hx] at K
  obtain ⟨T, hT⟩ : ∃ T, (⟨(Crc.layF (s.data.toList.drop 4)).toArray⟩ : ByteArray) = T := ⟨_, rfl⟩
  have hne : T ≠ s := by
    intro e
    apply hc
    rw [← lay_sum _ (by omega)]
    rw [← hT] at e
    have := congrArg (fun x : ByteArray => x.data.toList) e
    simpa using this
  rw [hT] at K
  have K := Lib.hid K
  have hq := toLb hne
  clear hc hT hx hll hne
  go_enter Try.func13, Try.ntmps13
  go_wp2_with fail
  refine (K.out _).mono ?_
  rintro e w1 ⟨rfl, hb1⟩
  have O1 := Lib.hid (bstep O0.out hb1)
  have B1 := Lib.hid (B0.out.below hb1 B0.out.lt)
  clear hb1
  have z0 := B1.out.frozen 0 (by simp)
  have z1 := B1.out.frozen 1 (by simp)
  have z2 := B1.out.frozen 2 (by simp)
  have z3 := B1.out.frozen 3 (by simp)
  have c0 := B1.out.cell_some (i := 0) rfl
  have c1 := B1.out.cell_some (i := 1) rfl
  have c2 := B1.out.cell_some (i := 2) rfl
  have c3 := B1.out.cell_some (i := 3) rfl
  have ZB := Lib.hid (storeP B1.out rfl 0 0 0 ⟨#[]⟩)
  have ZO := Lib.hid (storeP_below O1.out (Nat.le_refl _) 0 0 0 ⟨#[]⟩)
  go_wp2_with fail
  exact bodyPost_ret (results_cell_p rfl rfl ZB.out) rfl ⟨rfl, ZO.out⟩
end Go.Proofs.Ytmofbgcanehdoaa.Pg
