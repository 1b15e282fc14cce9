/- pages: the document's numbers. -/
import Derived.Test.YtmofbgcanehdoaaKit3
import Derived.Test.YtmofbgcanehdoaaPg4
namespace Go.Proofs.Ytmofbgcanehdoaa.Pg
open Go.RowKit Pk
attribute [local go_sem ↓] Go.wp_at_zero Go.wp_at_succ exec_app
def lowK (N k : Nat) : List UInt8 := (List.range k).map fun j => UInt8.ofNat (N / 256 ^ (k - 1 - j))
def lenW : Value → Nat
  | .slice _ n _ => n
  | _ => 0
theorem lowK_length (N k : Nat) : (lowK N k).length = k := by simp [lowK]
theorem lowK_succ (N k : Nat) : lowK N (k + 1) = UInt8.ofNat (N / 256 ^ k) :: lowK N k := by
  unfold lowK
  rw [List.range_succ_eq_map, List.map_cons, List.map_map]
  congr 1
  apply List.map_congr_left
  intro j hj
  show UInt8.ofNat (N / 256 ^ (k + 1 - 1 - (j + 1))) = _
  congr 3
  omega
theorem lowK_be8 (N : Nat) : lowK N 8 = be8 N := rfl
set_option maxRecDepth 100000 in
set_option maxHeartbeats 4000000 in
theorem rU_any (N : Nat) (hN : N < 18446744073709551616) (w : World) :
    Calls Try.prog 56 #[.int .u64 (N : Nat)] w fun e w' => e = .returned (.string ⟨(be8 N).toArray⟩) ∧ Below w.heap.size w w' := by
  go_enter Try.func56, Try.ntmps56
  go_wp2_with fail
  go_loopw [0, 3, 4] (fun nv bv iv wr => ∃ k : Nat, k ≤ 8 ∧ nv = .int .u64 (N / 256 ^ k : Nat) ∧ iv = .int .i64 k ∧ Slc wr 5 1 bv k (bvs (lowK N k)) ∧ Hid (Below w.heap.size w wr)) (fun _ _ iv _ => 8 - (intOf iv).toNat)
  case atStart => exact ⟨0, by omega, by simp, rfl, Slc.nil _ _ _, Lib.hid (Below.refl _ _)⟩
  case round =>
    obtain ⟨k, hk, rfl, rfl, S, O⟩ := hrel
    by_cases h : k < 8
    · have hI : (k : Int) < 8 := by omega
      obtain ⟨M, hM⟩ : ∃ M, N / 256 ^ k = M := ⟨_, rfl⟩
      have hMlt : M < 18446744073709551616 := by rw [← hM]; exact Nat.lt_of_le_of_lt (Nat.div_le_self _ _) hN
      have hM1 : N / 256 ^ (k + 1) = M / 256 := by rw [← hM, Nat.pow_succ, Nat.div_div_eq_div_mul]
      rw [hM]
      have HM := Lib.hid (And.intro hM hM1)
      clear hM hM1
      obtain ⟨VA, vc, rfl⟩ := slc_val S
      have hx : Value.int .u8 ((M : Int) % 256) = bv (UInt8.ofNat M) := bv_mod M
      obtain ⟨v', w2, ea, S2, ow, fr⟩ := append_slcs (P := Try.prog) (slc_lit wr 5 [.int .u8 ((M : Int) % 256)] (by simp; unfold maxLen; omega)) (S.alloc _) 62 62 (.int .u8 0) 1 Try.underlying62 Crc.info_u8 rfl (by omega) (bvs_one _) (by simp; unfold maxLen; omega) (by simp; omega)
      obtain ⟨V2, vc2, rfl⟩ := slc_val S2
      have EA := Lib.hid (show appRun Try.prog 62 62 (wr.alloc (.cells #[.int .u8 ((M : Int) % 256)] 5)) (.slice (some ⟨wr.heap.size, 0, none⟩) 1 1) (.slice VA k vc) = .ok (.slice V2 (k + 1) vc2) w2 from by rw [Nat.add_comm k 1]; exact ea)
      have SX := Lib.hid (show Slc w2 5 1 (.slice V2 (k + 1) vc2) (k + 1) (bvs (lowK N (k + 1))) from by
        rw [lowK_succ, HM.out.1]
        rw [hx] at S2
        have : bvs (UInt8.ofNat M :: lowK N k) = [bv (UInt8.ofNat M)] ++ bvs (lowK N k) := rfl
        rw [this, Nat.add_comm k 1]
        exact S2)
      have OX := Lib.hid ((belowAlloc O.out _).trans (ow.below_of (by have := O.out.size; simp; omega) (by have := O.out.size; intro x hx; simp [ownB] at hx; omega)))
      clear ea S2 ow fr hx S
      go_wp2_with fail
      rw [EA.out]
      go_wp2_with fail
      go_roundw
      case rel => exact ⟨k + 1, by omega, by rw [HM.out.2]; first | rfl | simp, by go_num, SX.out, OX⟩
      case measure => simp [intOf]; omega
    · obtain rfl : k = 8 := by omega
      have ST := Lib.hid (str_slc (P := Try.prog) S 62 9 Try.underlying62 Try.underlying5 Try.underlying9)
      have SS := Lib.hid S
      obtain ⟨VA, vc, rfl⟩ := slc_val S
      clear S
      go_wp2_with fail
      rw [ST.out]
      go_wp2_with fail
      go_ret
      exact ⟨by rfl, O.out⟩
set_option maxRecDepth 100000 in
set_option maxHeartbeats 2000000 in
theorem rI_any (m : Nat) (h1 : m < 9223372036854775808) (w : World) :
    Calls Try.prog 37 #[.int .i64 (m : Nat)] w fun e w' => e = .returned (.string ⟨(packI m).toArray⟩) ∧ Below w.heap.size w w' := by
  have hN : (((m : Int) + 9223372036854775808) % 18446744073709551616).toNat = m + 9223372036854775808 := by omega
  have hNI : ((m + 9223372036854775808 : Nat) : Int) = (m : Int) + 9223372036854775808 := by omega
  have K := Lib.hid (rU_any (m + 9223372036854775808) (by omega) w)
  rw [hNI] at K
  unfold packI
  rw [hN]
  have e1 : IntKind.u64.wrap (m : Int) = (m : Int) := IntWalk.u64_in _ (by omega)
  have e2 : IntKind.u64.wrap ((m : Int) + 9223372036854775808) = (m : Int) + 9223372036854775808 := IntWalk.u64_in _ (by omega)
  clear hN hNI
  go_enter Try.func37, Try.ntmps37
  go_wp2_with fail
  refine K.out.mono ?_
  rintro e w1 ⟨rfl, hb⟩
  have HB := Lib.hid hb
  clear hb
  go_wp2_with fail
  go_ret
  exact ⟨rfl, HB.out⟩
set_option maxRecDepth 100000 in
set_option maxHeartbeats 2000000 in
theorem rfull_any (s : ByteArray) (hs : s.size ≤ 1000000) (w : World) :
    Calls Try.prog 14 #[.string s] w fun e w' => e = .returned (.string ⟨(padL s.data.toList 232).toArray⟩) ∧ Below w.heap.size w w' := by
  obtain ⟨cap, w1, ea, S1, O1⟩ := bytes_of_string (P := Try.prog) w 9 62 5 s Try.underlying9 Try.underlying62 Try.underlying5 (by unfold maxLen; omega)
  have EA := Lib.hid ea
  have S1 := Lib.hid S1
  have O1 := Lib.hid O1
  clear ea
  go_enter Try.func14, Try.ntmps14
  go_wp2_with fail
  rw [EA.out]
  go_wp2_with fail
  go_loopw [3] (fun bv wr => ∃ j : Nat, (j = 0 ∨ s.size + j ≤ 232) ∧ Slc wr 5 1 bv (s.size + j) (bvs (s.data.toList ++ List.replicate j 0)) ∧ Hid (∀ g ∈ ownB bv, w.heap.size ≤ g) ∧ Hid (Below w.heap.size w wr)) (fun bv _ => 300 - lenW bv)
  case atStart => exact ⟨0, .inl rfl, by rw [List.replicate_zero, List.append_nil]; exact S1.out, Lib.hid (by simp [ownB]), O1⟩
  case round =>
    obtain ⟨j, hj, S, F, O⟩ := hrel
    obtain ⟨VA, vc, rfl⟩ := slc_val S
    by_cases h : s.size + j < 232
    · have hI : ((s.size + j : Nat) : Int) < 232 := by omega
      obtain ⟨v', w2, ea, S2, ow, fr⟩ := append_one (P := Try.prog) S 62 62 (.int .u8 0) 1 Try.underlying62 Crc.info_u8 rfl (.int .u8 0) rfl (by unfold maxLen; omega) (by omega)
      obtain ⟨V2, vc2, rfl⟩ := slc_val S2
      have EA := Lib.hid ea
      have SX := Lib.hid (show Slc w2 5 1 (.slice V2 (s.size + j + 1) vc2) (s.size + (j + 1)) (bvs (s.data.toList ++ List.replicate (j + 1) 0)) from by
        rw [List.replicate_succ', ← List.append_assoc, bvs_append]; exact S2)
      have OX := Lib.hid (O.out.trans (ow.below_of O.out.size F.out))
      have FX := Lib.hid (show ∀ x ∈ ownB (.slice V2 (s.size + j + 1) vc2), w.heap.size ≤ x from fun x hx => (fr x hx).elim (F.out x) (fun h => Nat.le_trans O.out.size h))
      clear ea S2 ow fr S
      go_wp2_with fail
      rw [EA.out]
      go_wp2_with fail
      go_roundw
      case rel => exact ⟨j + 1, by omega, SX.out, FX, OX⟩
      case measure => simp [lenW]; omega
    · have hI : ¬ ((s.size + j : Nat) : Int) < 232 := by omega
      have ST := Lib.hid (str_slc (P := Try.prog) S 62 9 Try.underlying62 Try.underlying5 Try.underlying9)
      have HP := Lib.hid (show s.data.toList ++ List.replicate j 0 = padL s.data.toList 232 from by
        unfold padL; congr 2; simp; omega)
      clear S
      go_wp2_with fail
      rw [ST.out]
      go_wp2_with fail
      go_ret
      exact ⟨by rw [← HP.out]; rfl, O.out⟩
set_option maxHeartbeats 2000000 in
theorem rright_any {w : World} (id ep kd : Int) (s : ByteArray) (b : Bool) (hb : okP id ep kd = b) :
    Calls Try.prog 17 #[pageV id ep kd s] w fun e w' => e = .returned (.bool b) ∧ Below w.heap.size w w' := by
  have B0 := Blk.new w 23 (pageC id ep kd s)
  have O0 := Lib.hid (belowAlloc (Below.refl w.heap.size w) (.cells (pageC id ep kd s) 23))
  unfold pageC at B0 O0
  have c0 : (w.alloc (.cells #[.int .i64 id, .int .i64 ep, .int .i64 kd, .string s] 23)).cell? ⟨w.heap.size, 0, none⟩ = some (.int .i64 id) := B0.cell_some (i := 0) rfl
  have c1 : (w.alloc (.cells #[.int .i64 id, .int .i64 ep, .int .i64 kd, .string s] 23)).cell? ⟨w.heap.size, 1, none⟩ = some (.int .i64 ep) := B0.cell_some (i := 1) rfl
  have c2 : (w.alloc (.cells #[.int .i64 id, .int .i64 ep, .int .i64 kd, .string s] 23)).cell? ⟨w.heap.size, 2, none⟩ = some (.int .i64 kd) := B0.cell_some (i := 2) rfl
  clear B0
  unfold okP at hb
  have HB := Lib.hid hb
  clear hb
  unfold pageV
  by_cases h1 : 0 ≤ id
  · by_cases h2 : 0 ≤ ep
    · by_cases h3 : ep ≤ 1099511627776
      · by_cases h4 : 0 ≤ kd
        · by_cases h5 : kd ≤ 2147483647
          all_goals
            go_enter Try.func17, Try.ntmps17
            go_wp2_with fail
            go_ret
            exact ⟨by rw [← HB.out]; first | (simp [h1, h2, h3, h4, h5]; done) | (simp [h1, h2, h3, h4, h5]; omega), O0.out⟩
        · go_enter Try.func17, Try.ntmps17
          go_wp2_with fail
          go_ret
          exact ⟨by rw [← HB.out]; first | (simp [h1, h2, h3, h4]; done) | (simp [h1, h2, h3, h4]; omega), O0.out⟩
      · go_enter Try.func17, Try.ntmps17
        go_wp2_with fail
        go_ret
        exact ⟨by rw [← HB.out]; first | (simp [h1, h2, h3]; done) | (simp [h1, h2, h3]; omega), O0.out⟩
    · go_enter Try.func17, Try.ntmps17
      go_wp2_with fail
      go_ret
      exact ⟨by rw [← HB.out]; first | (simp [h1, h2]; done) | (simp [h1, h2]; omega), O0.out⟩
  · go_enter Try.func17, Try.ntmps17
    go_wp2_with fail
    go_ret
    exact ⟨by rw [← HB.out]; first | (simp [h1]; done) | (simp [h1]; omega), O0.out⟩
end Go.Proofs.Ytmofbgcanehdoaa.Pg
