/- pages: the document's page, laid. -/
import Derived.Test.YtmofbgcanehdoaaPg5
import Derived.Test.YtmofbgcanehdoaaCrcRef
import Derived.Deep.RegionHeld3
namespace Go.Proofs.Ytmofbgcanehdoaa.Pg
open Go.RowKit Pk
attribute [local go_sem ↓] Go.wp_at_zero Go.wp_at_succ
set_option maxRecDepth 100000 in
set_option maxHeartbeats 2000000 in
theorem pput_big {w : World} (id ep kd : Int) (s : ByteArray) (h : okP id ep kd = true) (hs : 232 < s.size) :
    Calls Try.prog 9 #[pageV id ep kd s] w fun e w' => e = .returned (.tuple #[.string ⟨#[]⟩, .int .i64 4]) ∧ Below w.heap.size w w' := by
  have O0 := Lib.hid (belowAlloc (Below.refl w.heap.size w) (.cells #[.int .i64 id, .int .i64 ep, .int .i64 kd, .string s] 23))
  have B0 := Lib.hid (Blk.new w 23 #[.int .i64 id, .int .i64 ep, .int .i64 kd, .string s])
  have c0 := B0.out.cell_some (i := 0) rfl
  have c1 := B0.out.cell_some (i := 1) rfl
  have c2 := B0.out.cell_some (i := 2) rfl
  have c3 := B0.out.cell_some (i := 3) rfl
  have K := Lib.hid (fun w => pright_any (w := w) id ep kd s true h)
  have hI : (232 : Int) < (s.size : Int) := by omega
  clear h
  unfold pageV at *
  go_enter Try.func9, Try.ntmps9
  go_wp2_with fail
  refine (K.out _).mono ?_
  rintro e w1 ⟨rfl, hb1⟩
  have O1 := Lib.hid (bstep O0.out hb1)
  have B1 := Lib.hid (B0.out.below hb1 B0.out.lt)
  clear hb1 c0 c1 c2 c3
  have c3 := B1.out.cell_some (i := 3) rfl
  go_wp2_with fail
  go_ret2
  exact ⟨rfl, O1.out⟩
set_option maxRecDepth 100000 in
set_option maxHeartbeats 2000000 in
theorem rput_big {w : World} (id ep kd : Int) (s : ByteArray) (h : okP id ep kd = true) (hs : 232 < s.size) :
    Calls Try.prog 10 #[pageV id ep kd s] w fun e w' => e = .returned (.tuple #[.string ⟨#[]⟩, .int .i64 4]) ∧ Below w.heap.size w w' := by
  have O0 := Lib.hid (belowAlloc (Below.refl w.heap.size w) (.cells #[.int .i64 id, .int .i64 ep, .int .i64 kd, .string s] 23))
  have B0 := Lib.hid (Blk.new w 23 #[.int .i64 id, .int .i64 ep, .int .i64 kd, .string s])
  have c0 := B0.out.cell_some (i := 0) rfl
  have c1 := B0.out.cell_some (i := 1) rfl
  have c2 := B0.out.cell_some (i := 2) rfl
  have c3 := B0.out.cell_some (i := 3) rfl
  have K := Lib.hid (fun w => rright_any (w := w) id ep kd s true h)
  have hI : (232 : Int) < (s.size : Int) := by omega
  clear h
  unfold pageV at *
  go_enter Try.func10, Try.ntmps10
  go_wp2_with fail
  refine (K.out _).mono ?_
  rintro e w1 ⟨rfl, hb1⟩
  have O1 := Lib.hid (bstep O0.out hb1)
  have B1 := Lib.hid (B0.out.below hb1 B0.out.lt)
  clear hb1 c0 c1 c2 c3
  have c3 := B1.out.cell_some (i := 3) rfl
  go_wp2_with fail
  go_ret2
  exact ⟨rfl, O1.out⟩
set_option maxRecDepth 100000 in
set_option maxHeartbeats 2000000 in
theorem rput_no {w : World} (id ep kd : Int) (s : ByteArray) (h : okP id ep kd = false) :
    Calls Try.prog 10 #[pageV id ep kd s] w fun e w' => e = .returned (.tuple #[.string ⟨#[]⟩, .int .i64 2]) ∧ Below w.heap.size w w' := by
  have O0 := Lib.hid (belowAlloc (Below.refl w.heap.size w) (.cells #[.int .i64 id, .int .i64 ep, .int .i64 kd, .string s] 23))
  have B0 := Blk.new w 23 #[.int .i64 id, .int .i64 ep, .int .i64 kd, .string s]
  have c0 := B0.cell_some (i := 0) rfl
  have c1 := B0.cell_some (i := 1) rfl
  have c2 := B0.cell_some (i := 2) rfl
  have c3 := B0.cell_some (i := 3) rfl
  have K := Lib.hid (fun w => rright_any (w := w) id ep kd s false h)
  clear h B0
  unfold pageV at *
  go_enter Try.func10, Try.ntmps10
  go_wp2_with fail
  refine (K.out _).mono ?_
  rintro e w1 ⟨rfl, hb1⟩
  have O1 := Lib.hid (bstep O0.out hb1)
  clear hb1
  go_wp2_with fail
  go_ret2
  exact ⟨rfl, O1.out⟩
theorem drop_be8 (N : Nat) : (be8 N).drop 4 = [UInt8.ofNat (N / 16777216), UInt8.ofNat (N / 65536), UInt8.ofNat (N / 256), UInt8.ofNat N] := by
  have e : be8 N = [UInt8.ofNat (N / 72057594037927936), UInt8.ofNat (N / 281474976710656), UInt8.ofNat (N / 1099511627776), UInt8.ofNat (N / 4294967296), UInt8.ofNat (N / 16777216), UInt8.ofNat (N / 65536), UInt8.ofNat (N / 256), UInt8.ofNat (N / 1)] := rfl
  rw [e, Nat.div_one]; rfl
theorem four_kd (N : Nat) (h : N ≤ 2147483647) : [Value.int .u8 ((N : Int) / 16777216), .int .u8 ((N : Int) / 65536 % 256), .int .u8 ((N : Int) / 256 % 256), .int .u8 ((N : Int) % 256)] = bvs ((be8 N).drop 4) := by
  rw [drop_be8]
  have e1 := bv_div N 16777216
  have e2 := bv_div N 65536
  have e3 := bv_div N 256
  have e4 := bv_mod N
  have e0 : ((N : Int) / 16777216) % 256 = (N : Int) / 16777216 := by omega
  simp only [bvs, List.map_cons, List.map_nil]
  rw [← e4, ← bv_div N 16777216, ← bv_div N 65536, ← bv_div N 256]
  show _ = [Value.int .u8 ((N : Int) / 16777216 % 256), _, _, _]
  rw [e0]; rfl
theorem pad_body (id ep kd : Int) (s : List UInt8) (h : s.length ≤ 232) : packI id ++ packI ep ++ (be8 kd.toNat).drop 4 ++ padL s 232 = padL (bodyL id ep kd s) 252 := by
  unfold padL bodyL
  have h1 : (packI id ++ packI ep ++ (be8 kd.toNat).drop 4 ++ s).length = 20 + s.length := by simp [packI_len, be8_len]; omega
  rw [h1, ← List.append_assoc]
  congr 2; omega
set_option maxRecDepth 100000 in
set_option maxHeartbeats 4000000 in
theorem rput_yes {w : World} (id ep kd : Nat) (s : ByteArray) (hid : id < 9223372036854775808) (hep : ep ≤ 1099511627776) (hkd : kd ≤ 2147483647) (hs : s.size ≤ 232) :
    Calls Try.prog 10 #[pageV id ep kd s] w fun e w' => e = .returned (.tuple #[.string ⟨(pageL id ep kd s.data.toList).toArray⟩, .int .i64 0]) ∧ Below w.heap.size w w' := by
  have hok : okP id ep kd = true := by rw [okP_iff]; omega
  have O0 := Lib.hid (belowAlloc (Below.refl w.heap.size w) (.cells #[.int .i64 (id : Nat), .int .i64 (ep : Nat), .int .i64 (kd : Nat), .string s] 23))
  have B0 := Lib.hid (Blk.new w 23 #[.int .i64 (id : Nat), .int .i64 (ep : Nat), .int .i64 (kd : Nat), .string s])
  have KR := Lib.hid (fun w => rright_any (w := w) id ep kd s true hok)
  have KI := Lib.hid (rI_any id hid)
  have KE := Lib.hid (rI_any ep (by omega))
  have KF := Lib.hid (rfull_any s (by omega))
  have hsI : ¬ (232 : Int) < (s.size : Int) := by omega
  have hPB := pad_body id ep kd s.data.toList (by simp; omega)
  have hPL : Crc.layF (padL (bodyL id ep kd s.data.toList) 252) = pageL id ep kd s.data.toList := rfl
  obtain ⟨U1, hU1⟩ : ∃ U, (⟨(packI id).toArray⟩ : ByteArray) = U := ⟨_, rfl⟩
  obtain ⟨U2, hU2⟩ : ∃ U, (⟨(packI ep).toArray⟩ : ByteArray) = U := ⟨_, rfl⟩
  obtain ⟨U3, hU3⟩ : ∃ U, (⟨(padL s.data.toList 232).toArray⟩ : ByteArray) = U := ⟨_, rfl⟩
  obtain ⟨U4, hU4⟩ : ∃ U, (⟨((be8 kd).drop 4).toArray⟩ : ByteArray) = U := ⟨_, rfl⟩
  have hUU : (U1 ++ U2 ++ U4 ++ U3).data.toList = padL (bodyL id ep kd s.data.toList) 252 := by
    rw [← hPB, ← hU1, ← hU2, ← hU3, ← hU4]
    simp only [ByteArray.data_append, Array.toList_append]
    rfl
  have z1 : U1.size = 8 := by rw [← hU1, str_size, packI_len]
  have z2 : U2.size = 8 := by rw [← hU2, str_size, packI_len]
  have z3 : U3.size = 232 := by rw [← hU3, str_size]; unfold padL; simp; omega
  have z4 : U4.size = 4 := by rw [← hU4, str_size]; simp [be8_len]
  have KL := Lib.hid (Crc.rlay_any (U1 ++ U2 ++ U4 ++ U3) (hs := by simp only [ByteArray.size_append]; omega))
  rw [hUU, hPL] at KL
  rw [hU1] at KI
  rw [hU2] at KE
  rw [hU3] at KF
  have HU4 := Lib.hid hU4
  clear hU1 hU2 hU3 hU4 hUU hPB hPL
  have c0 := B0.out.cell_some (i := 0) rfl
  have c1 := B0.out.cell_some (i := 1) rfl
  have c2 := B0.out.cell_some (i := 2) rfl
  have c3 := B0.out.cell_some (i := 3) rfl
  unfold pageV at *
  go_enter Try.func10, Try.ntmps10
  go_wp2_with fail
  refine (KR.out _).mono ?_
  rintro e w1 ⟨rfl, hb1⟩
  have O1 := Lib.hid (bstep O0.out hb1)
  have B1 := Lib.hid (B0.out.below hb1 B0.out.lt)
  clear hb1 c0 c1 c2 c3 O0 B0
  have c2 := B1.out.cell_some (i := 2) rfl
  have c3 := B1.out.cell_some (i := 3) rfl
  have F4 := four_kd kd hkd
  have O2 := Lib.hid (belowAlloc O1.out (.cells #[.int .u8 ((kd : Int) / 16777216), .int .u8 ((kd : Int) / 65536 % 256), .int .u8 ((kd : Int) / 256 % 256), .int .u8 ((kd : Int) % 256)] 5))
  have B2 := Lib.hid (B1.out.alloc (.cells #[.int .u8 ((kd : Int) / 16777216), .int .u8 ((kd : Int) / 65536 % 256), .int .u8 ((kd : Int) / 256 % 256), .int .u8 ((kd : Int) % 256)] 5))
  have S2 := Lib.hid (show Slc (w1.alloc (.cells #[.int .u8 ((kd : Int) / 16777216), .int .u8 ((kd : Int) / 65536 % 256), .int .u8 ((kd : Int) / 256 % 256), .int .u8 ((kd : Int) % 256)] 5)) 5 1 (.slice (some ⟨w1.heap.size, 0, none⟩) 4 4) 4 (bvs ((be8 kd).drop 4)) from by rw [← F4]; exact slc_lit w1 5 [.int .u8 ((kd : Int) / 16777216), .int .u8 ((kd : Int) / 65536 % 256), .int .u8 ((kd : Int) / 256 % 256), .int .u8 ((kd : Int) % 256)] (by simp; unfold maxLen; omega))
  clear F4 B1 O1
  go_wp2_with fail
  generalize hw2 : w1.alloc (.cells #[.int .u8 ((kd : Int) / 16777216), .int .u8 ((kd : Int) / 65536 % 256), .int .u8 ((kd : Int) / 256 % 256), .int .u8 ((kd : Int) % 256)] 5) = w2 at *
  clear hw2
  have n1 : ¬ 9223372036854775807 < U1.size + U2.size := by omega
  have n2 : ¬ 9223372036854775807 < (U1 ++ U2).size + U4.size := by simp only [ByteArray.size_append]; omega
  have n3 : ¬ 9223372036854775807 < (U1 ++ U2 ++ U4).size + U3.size := by simp only [ByteArray.size_append]; omega
  have HK := Lib.hid (show ∀ W', Below w2.heap.size w2 W' → (W'.cell? ⟨w.heap.size, 0, none⟩ = some (.int .i64 (id : Nat)) ∧ W'.cell? ⟨w.heap.size, 1, none⟩ = some (.int .i64 (ep : Nat)) ∧ W'.cell? ⟨w.heap.size, 3, none⟩ = some (.string s) ∧ (convert 62 9 (.slice (some ⟨w1.heap.size, 0, none⟩) 4 4)).run Try.prog W' = .ok (.string U4) W') from fun W' hb => by
    have B := B2.out.below hb B2.out.lt
    refine ⟨B.cell_some (i := 0) rfl, B.cell_some (i := 1) rfl, B.cell_some (i := 3) rfl, ?_⟩
    rw [← HU4.out]
    exact str_slc (P := Try.prog) (S2.out.below hb) 62 9 Try.underlying62 Try.underlying5 Try.underlying9)
  have OD := Lib.hid (show Below w2.heap.size w2 w2.drew from (Below.refl _ _).drew)
  refine wp_region_held_drew (S := fun W' => W'.cell? ⟨w.heap.size, 0, none⟩ = some (.int .i64 (id : Nat)) ∧ W'.cell? ⟨w.heap.size, 1, none⟩ = some (.int .i64 (ep : Nat)) ∧ W'.cell? ⟨w.heap.size, 3, none⟩ = some (.string s) ∧ (convert 62 9 (.slice (some ⟨w1.heap.size, 0, none⟩) 4 4)).run Try.prog W' = .ok (.string U4) W') (by kernel_rfl) (HK.out _ OD.out) (fun hHeld => ?_)
  refine wpAnyH_take (i := 0) (oi := ⟨some 31, _, _, _, _, _⟩) (v := ?_) rfl (by kernel_rfl) (by kernel_rfl) (by kernel_rfl) (fun _ _ _ h => h) (Or.inl ⟨by kernel_rfl, ?_⟩) (by assumption) ?_
  rotate_left
  · (intro w hSw; (try dsimp only at hSw); go_simp; (try (with_reducible rfl)))
  try simp only [Act.put, List.setIfInBounds_toArray, List.set_cons_zero, List.set_cons_succ]
  refine wpAnyH_take (i := 1) (oi := ⟨some 32, _, _, _, _, _⟩) (v := ?_) rfl (by kernel_rfl) (by kernel_rfl) (by kernel_rfl) (fun _ _ _ h => h) (Or.inl ⟨by kernel_rfl, ?_⟩) (by assumption) ?_
  rotate_left
  · (intro w hSw; (try dsimp only at hSw); go_simp; (try (with_reducible rfl)))
  try simp only [Act.put, List.setIfInBounds_toArray, List.set_cons_zero, List.set_cons_succ]
  refine wpAnyH_take (i := 3) (oi := ⟨some 34, _, _, _, _, _⟩) (v := ?_) rfl (by kernel_rfl) (by kernel_rfl) (by kernel_rfl) (fun _ _ _ h => h) (Or.inl ⟨by kernel_rfl, ?_⟩) (by assumption) ?_
  rotate_left
  · (intro w hSw; (try dsimp only at hSw); go_simp; (try (with_reducible rfl)))
  try simp only [Act.put, List.setIfInBounds_toArray, List.set_cons_zero, List.set_cons_succ]
  refine wpAnyH_take (i := 4) (oi := ⟨some 35, _, _, _, _, _⟩) (v := ?_) rfl (by kernel_rfl) (by kernel_rfl) (by kernel_rfl) (fun _ _ _ h => h) (Or.inl ⟨by kernel_rfl, ?_⟩) (by assumption) ?_
  rotate_left
  · (intro w hSw; (try dsimp only at hSw); go_simp; (try (with_reducible rfl)))
  try simp only [Act.put, List.setIfInBounds_toArray, List.set_cons_zero, List.set_cons_succ]
  refine wpAnyH_take (i := 7) (oi := ⟨some 38, _, _, _, _, _⟩) (v := ?_) rfl (by kernel_rfl) (by kernel_rfl) (by kernel_rfl) (fun _ _ _ h => h) (Or.inl ⟨by kernel_rfl, ?_⟩) (by assumption) ?_
  rotate_left
  · (intro w hSw; (try dsimp only at hSw); go_simp; (try (with_reducible rfl)))
  try simp only [Act.put, List.setIfInBounds_toArray, List.set_cons_zero, List.set_cons_succ]
  refine wpAnyH_take (i := 8) (oi := ⟨some 39, _, _, _, _, _⟩) (v := ?_) rfl (by kernel_rfl) (by kernel_rfl) (by kernel_rfl) (fun _ _ _ h => h) (Or.inl ⟨by kernel_rfl, ?_⟩) (by assumption) ?_
  rotate_left
  · (intro w hSw; (try dsimp only at hSw); go_simp; (try (with_reducible rfl)))
  try simp only [Act.put, List.setIfInBounds_toArray, List.set_cons_zero, List.set_cons_succ]
  refine wpAnyH_take (i := 10) (oi := ⟨some 41, _, _, _, _, _⟩) (v := ?_) rfl (by kernel_rfl) (by kernel_rfl) (by kernel_rfl) (fun _ _ _ h => h) (Or.inl ⟨by kernel_rfl, ?_⟩) (by assumption) ?_
  rotate_left
  · (intro w hSw; (try dsimp only at hSw); go_simp; (try (with_reducible rfl)))
  try simp only [Act.put, List.setIfInBounds_toArray, List.set_cons_zero, List.set_cons_succ]
  refine wpAnyH_take (i := 11) (oi := ⟨some 42, _, _, _, _, _⟩) (v := ?_) rfl (by kernel_rfl) (by kernel_rfl) (by kernel_rfl) (fun _ _ _ h => h) (Or.inl ⟨by kernel_rfl, ?_⟩) (by assumption) ?_
  rotate_left
  · (intro w hSw; (try dsimp only at hSw); go_simp; (try (with_reducible rfl)))
  try simp only [Act.put, List.setIfInBounds_toArray, List.set_cons_zero, List.set_cons_succ]
  refine wpAnyH_ready (rs := [2]) (by kernel_rfl) (by simp) ?_
  refine AllReadyH.cons (o := ⟨some 33, _, _, _, _, _⟩) rfl (fun K hK => ?_) AllReadyH.nil
  go_simp
  go_at_call 37
  refine (KI.out _).mono ?_
  rintro e v1 ⟨rfl, hv1⟩
  have P1 := Lib.hid (bstep OD.out hv1)
  clear hv1
  go_simp
  refine hK.out _ _ (HK.out _ P1.out) (fun hHeld => ?_)
  try simp only [Act.put, List.setIfInBounds_toArray, List.set_cons_zero, List.set_cons_succ]
  refine wpAnyH_ready (rs := [5]) (by kernel_rfl) (by simp) ?_
  refine AllReadyH.cons (o := ⟨some 36, _, _, _, _, _⟩) rfl (fun K hK => ?_) AllReadyH.nil
  go_simp
  go_at_call 37
  refine (KE.out _).mono ?_
  rintro e v2 ⟨rfl, hv2⟩
  have P2 := Lib.hid (bstep P1.out hv2)
  clear hv2
  go_simp
  refine hK.out _ _ (HK.out _ P2.out) (fun hHeld => ?_)
  try simp only [Act.put, List.setIfInBounds_toArray, List.set_cons_zero, List.set_cons_succ]
  refine wpAnyH_take (i := 6) (oi := ⟨some 37, _, _, _, _, _⟩) (v := ?_) rfl (by kernel_rfl) (by kernel_rfl) (by kernel_rfl) (fun _ _ _ h => h) (Or.inl ⟨by kernel_rfl, ?_⟩) (by assumption) ?_
  rotate_left
  · (intro w hSw; (try dsimp only at hSw); go_simp; (try (with_reducible rfl)))
  try simp only [Act.put, List.setIfInBounds_toArray, List.set_cons_zero, List.set_cons_succ]
  refine wpAnyH_take (i := 9) (oi := ⟨some 40, _, _, _, _, _⟩) (v := ?_) rfl (by kernel_rfl) (by kernel_rfl) (by kernel_rfl) (fun _ _ _ h => h) (Or.inl ⟨by kernel_rfl, ?_⟩) (by assumption) ?_
  rotate_left
  · (intro w hSw; (try dsimp only at hSw); go_simp; (try (with_reducible rfl)))
  try simp only [Act.put, List.setIfInBounds_toArray, List.set_cons_zero, List.set_cons_succ]
  refine wpAnyH_ready (rs := [12]) (by kernel_rfl) (by simp) ?_
  refine AllReadyH.cons (o := ⟨some 43, _, _, _, _, _⟩) rfl (fun K hK => ?_) AllReadyH.nil
  go_simp
  go_at_call 14
  refine (KF.out _).mono ?_
  rintro e v3 ⟨rfl, hv3⟩
  have P3 := Lib.hid (bstep P2.out hv3)
  clear hv3
  go_simp
  refine hK.out _ _ (HK.out _ P3.out) (fun hHeld => ?_)
  try simp only [Act.put, List.setIfInBounds_toArray, List.set_cons_zero, List.set_cons_succ]
  refine wpAnyH_take (i := 13) (oi := ⟨some 44, _, _, _, _, _⟩) (v := ?_) rfl (by kernel_rfl) (by kernel_rfl) (by kernel_rfl) (fun _ _ _ h => h) (Or.inl ⟨by kernel_rfl, ?_⟩) (by assumption) ?_
  rotate_left
  · (intro w hSw; (try dsimp only at hSw); go_simp; (try (with_reducible rfl)))
  try simp only [Act.put, List.setIfInBounds_toArray, List.set_cons_zero, List.set_cons_succ]
  refine wpAnyH_ready (rs := [14]) (by kernel_rfl) (by simp) ?_
  refine AllReadyH.cons (o := ⟨some 45, _, _, _, _, _⟩) rfl (fun K hK => ?_) AllReadyH.nil
  go_simp
  go_at_call 36
  refine (KL.out _).mono ?_
  rintro e v4 ⟨rfl, hv4⟩
  have P4 := Lib.hid (bstep P3.out hv4)
  clear hv4
  go_simp
  refine hK.out _ _ (HK.out _ P4.out) (fun hHeld => ?_)
  try simp only [Act.put, List.setIfInBounds_toArray, List.set_cons_zero, List.set_cons_succ]
  refine wpAnyH_take (i := 15) (oi := ⟨some 2, _, _, _, _, _⟩) (v := ?_) rfl (by kernel_rfl) (by kernel_rfl) (by kernel_rfl) (fun _ _ _ h => h) (Or.inl ⟨by kernel_rfl, ?_⟩) (by assumption) ?_
  rotate_left
  · (intro w hSw; (try dsimp only at hSw); go_simp; (try (with_reducible rfl)))
  try simp only [Act.put, List.setIfInBounds_toArray, List.set_cons_zero, List.set_cons_succ]
  refine wpAnyH_take (i := 16) (oi := ⟨some 3, _, _, _, _, _⟩) (v := ?_) rfl (by kernel_rfl) (by kernel_rfl) (by kernel_rfl) (fun _ _ _ h => h) (Or.inl ⟨by kernel_rfl, ?_⟩) (by assumption) ?_
  rotate_left
  · (intro w hSw; (try dsimp only at hSw); go_simp; (try (with_reducible rfl)))
  try simp only [Act.put, List.setIfInBounds_toArray, List.set_cons_zero, List.set_cons_succ]
  refine wpAnyH_done (by kernel_rfl) ?_ _
  have OZ := Lib.hid (bstep O2.out P4.out)
  go_wp2_with fail
  go_ret2
  exact ⟨rfl, OZ.out⟩
theorem pput_any {w : World} (id ep kd : Int) (s : ByteArray) (hid : id ≤ 9223372036854775807) :
    Calls Try.prog 9 #[pageV id ep kd s] w fun e w' => e = .returned (.tuple #[.string ⟨(putF id ep kd s.data.toList).1.toArray⟩, .int .i64 (putF id ep kd s.data.toList).2]) ∧ Below w.heap.size w w' := by
  have hl : s.data.toList.length = s.size := by simp
  unfold putF
  rw [hl]
  by_cases h : okP id ep kd = true
  · rw [if_pos h]
    by_cases hs : 232 < s.size
    · rw [if_pos hs]; exact pput_big id ep kd s h hs
    · rw [if_neg hs]
      have hb := (okP_iff id ep kd).1 h
      obtain ⟨a, rfl⟩ := Int.eq_ofNat_of_zero_le hb.1
      obtain ⟨b, rfl⟩ := Int.eq_ofNat_of_zero_le hb.2.1
      obtain ⟨c, rfl⟩ := Int.eq_ofNat_of_zero_le hb.2.2.2.1
      exact pput_yes a b c s (by omega) (by omega) (by omega) (by omega)
  · rw [if_neg h]
    exact pput_no id ep kd s (by simpa using h)
theorem rput_any {w : World} (id ep kd : Int) (s : ByteArray) (hid : id ≤ 9223372036854775807) :
    Calls Try.prog 10 #[pageV id ep kd s] w fun e w' => e = .returned (.tuple #[.string ⟨(putF id ep kd s.data.toList).1.toArray⟩, .int .i64 (putF id ep kd s.data.toList).2]) ∧ Below w.heap.size w w' := by
  have hl : s.data.toList.length = s.size := by simp
  unfold putF
  rw [hl]
  by_cases h : okP id ep kd = true
  · rw [if_pos h]
    by_cases hs : 232 < s.size
    · rw [if_pos hs]; exact rput_big id ep kd s h hs
    · rw [if_neg hs]
      have hb := (okP_iff id ep kd).1 h
      obtain ⟨a, rfl⟩ := Int.eq_ofNat_of_zero_le hb.1
      obtain ⟨b, rfl⟩ := Int.eq_ofNat_of_zero_le hb.2.1
      obtain ⟨c, rfl⟩ := Int.eq_ofNat_of_zero_le hb.2.2.2.1
      exact rput_yes a b c s (by omega) (by omega) (by omega) (by omega)
  · rw [if_neg h]
    exact rput_no id ep kd s (by simpa using h)
end Go.Proofs.Ytmofbgcanehdoaa.Pg
