/- pages on a disk: Read. -/
import Derived.Test.YtmofbgcanehdoaaPg11
namespace Go.Proofs.Ytmofbgcanehdoaa.Pg
open Go.RowKit Pk Dk
attribute [local go_sem ↓] Go.wp_at_zero Go.wp_at_succ exec_appS
/-- a page read of a disk -/
def preadF (d : D) (n : Nat) (id : Int) : PG × Int :=
  if id < 0 ∨ (manyF n : Int) ≤ id then (.zero, 3)
  else if d.down = true then (.zero, 13)
  else if (gotF ((d.now.drop (64 * (2 + 4 * id.toNat))).take 256)).2 ≠ 0 then (.zero, (gotF ((d.now.drop (64 * (2 + 4 * id.toNat))).take 256)).2)
  else if (gotF ((d.now.drop (64 * (2 + 4 * id.toNat))).take 256)).1.id ≠ id then (.zero, 14)
  else ((gotF ((d.now.drop (64 * (2 + 4 * id.toNat))).take 256)).1, 0)
theorem sec_next (F : List UInt8) (k i : Nat) : (F.drop (64 * k)).take (64 * (i + 1)) = (F.drop (64 * k)).take (64 * i) ++ sec F (k + i) := by
  unfold sec
  rw [show 64 * (i + 1) = 64 * i + 64 by omega, List.take_add, List.drop_drop, show 64 * k + 64 * i = 64 * (k + i) by omega]
theorem atF_val (d : D) (n : Nat) (k : Nat) (h : k < n) : d.atF n k = if d.down = true then 13 else 0 := by
  unfold D.atF
  rw [if_pos (show 0 ≤ (k : Int) ∧ (k : Int) < n by omega)]
theorem readF_down (d : D) (n : Nat) (k : Nat) (h : k < n) (hd : d.down = true) : d.readF n k = ([], 13) := by
  unfold D.readF
  rw [atF_val d n k h, if_pos hd]; rfl
theorem readF_up (d : D) (n : Nat) (k : Nat) (h : k < n) (hd : d.down = false) : d.readF n k = (sec d.now k, 0) := by
  unfold D.readF
  rw [atF_val d n k h]
  simp [hd]
set_option maxRecDepth 100000 in
set_option maxHeartbeats 2000000 in
theorem pread_nil {w : World} (id : Int) :
    Calls Try.prog 18 #[.pointer none, .int .i64 id] w fun e w' => e = .returned (.tuple #[PG.zero.val, .int .i64 1]) ∧ Below w.heap.size w w' := by
  have B0 := Lib.hid (Blk.new w 23 zeroC)
  have O0 := Lib.hid (belowAlloc (Below.refl w.heap.size w) (.cells zeroC 23))
  go_enter Try.func18, Try.ntmps18
  go_wp2_with fail
  exact bodyPost_ret (results_cell_p rfl rfl B0.out) rfl ⟨rfl, O0.out⟩
set_option maxRecDepth 100000 in
set_option maxHeartbeats 2000000 in
theorem pread_neg {w : World} (b : Nat) (id : Int) (h : id < 0) :
    Calls Try.prog 18 #[dp b, .int .i64 id] w fun e w' => e = .returned (.tuple #[PG.zero.val, .int .i64 3]) ∧ Below w.heap.size w w' := by
  have B0 := Lib.hid (Blk.new w 23 zeroC)
  have O0 := Lib.hid (belowAlloc (Below.refl w.heap.size w) (.cells zeroC 23))
  unfold dp
  go_enter Try.func18, Try.ntmps18
  go_wp2_with fail
  exact bodyPost_ret (results_cell_p rfl rfl B0.out) rfl ⟨rfl, O0.out⟩
set_option maxRecDepth 100000 in
set_option maxHeartbeats 2000000 in
theorem pread_far {w : World} {L : Dk.Loc} {n : Nat} {d : D} (hd : DiskAt w L n d) (id : Int) (h0 : 0 ≤ id) (h : (manyF n : Int) ≤ id) :
    Calls Try.prog 18 #[dp L.b, .int .i64 id] w fun e w' => e = .returned (.tuple #[PG.zero.val, .int .i64 3]) ∧ Below w.heap.size w w' := by
  have B0 := Lib.hid (Blk.new w 23 zeroC)
  have O0 := belowAlloc (Below.refl w.heap.size w) (.cells zeroC 23)
  have K := Lib.hid (many_any (hd.below O0))
  have O0 := Lib.hid O0
  have h1 : ¬ id < 0 := by omega
  clear hd
  have z0 := B0.out.frozen 0 (by simp)
  have z1 := B0.out.frozen 1 (by simp)
  have z2 := B0.out.frozen 2 (by simp)
  have z3 := B0.out.frozen 3 (by simp)
  have c0 := B0.out.cell_some (i := 0) rfl
  have c1 := B0.out.cell_some (i := 1) rfl
  have c2 := B0.out.cell_some (i := 2) rfl
  have c3 := B0.out.cell_some (i := 3) rfl
  have ZB := Lib.hid (storeP B0.out rfl 0 0 0 ⟨#[]⟩)
  have ZO := Lib.hid (storeP_below O0.out (Nat.le_refl _) 0 0 0 ⟨#[]⟩)
  unfold dp at *
  go_enter Try.func18, Try.ntmps18
  go_wp2_with fail
  refine K.out.mono ?_
  rintro e w1 ⟨rfl, rfl⟩
  go_wp2_with fail
  exact bodyPost_ret (results_cell_p rfl rfl B0.out) rfl ⟨rfl, O0.out⟩
set_option maxRecDepth 100000 in
set_option maxHeartbeats 4000000 in
theorem pread_down {w : World} {L : Dk.Loc} {n : Nat} {d : D} (hd : DiskAt w L n d) (id : Nat) (h : id < manyF n) (hdn : d.down = true) :
    Calls Try.prog 18 #[dp L.b, .int .i64 (id : Nat)] w fun e w' => e = .returned (.tuple #[PG.zero.val, .int .i64 13]) ∧ Below w.heap.size w w' := by
  have hn := hd.ok.small
  have hmn : manyF n ≤ 1023 := by unfold manyF; omega
  have hkn : 2 + 4 * id < n := by unfold manyF at h; omega
  have B0 := Lib.hid (Blk.new w 23 zeroC)
  have O0 := belowAlloc (Below.refl w.heap.size w) (.cells zeroC 23)
  have K := Lib.hid (many_any (hd.below O0))
  have O0 := Lib.hid O0
  have KS := Lib.hid (fun w => psectors_any (w := w) id (by omega))
  have KR := fun w' (hb : Below w.heap.size w w') => read_any (hd.below hb) ((2 + 4 * id : Nat) : Int)
  rw [readF_down d n _ hkn hdn] at KR
  have KR := Lib.hid KR
  have h1 : ¬ ((id : Nat) : Int) < 0 := by omega
  have h2 : ¬ ((manyF n : Nat) : Int) ≤ (id : Int) := by omega
  clear hd
  generalize manyF n = mn at *
  generalize 2 + 4 * id = k at *
  unfold dp fourI at *
  go_enter Try.func18, Try.ntmps18
  go_wp2_with fail
  refine K.out.mono ?_
  rintro e w1 ⟨rfl, rfl⟩
  go_wp2_with fail
  refine (KS.out _).mono ?_
  rintro e w2 ⟨rfl, hb2⟩
  have O2 := Lib.hid (bstep O0.out hb2)
  have B2 := Lib.hid (B0.out.below hb2 B0.out.lt)
  clear hb2
  have z0 := B2.out.frozen 0 (by simp)
  have z1 := B2.out.frozen 1 (by simp)
  have z2 := B2.out.frozen 2 (by simp)
  have z3 := B2.out.frozen 3 (by simp)
  have c0 := B2.out.cell_some (i := 0) rfl
  have c1 := B2.out.cell_some (i := 1) rfl
  have c2 := B2.out.cell_some (i := 2) rfl
  have c3 := B2.out.cell_some (i := 3) rfl
  have ZB := Lib.hid (storeP B2.out rfl 0 0 0 ⟨#[]⟩)
  have ZO := Lib.hid (storeP_below O2.out (Nat.le_refl _) 0 0 0 ⟨#[]⟩)
  have IX := Lib.hid (show (Instr.index 75 (.agg #[.int .i64 (k : Int), .int .i64 ((k : Int) + 1), .int .i64 ((k : Int) + 2), .int .i64 ((k : Int) + 3)]) (.int .i64 0)).run Try.prog w2 = .ok (.int .i64 (k : Int)) w2 from idx4 (k : Int) ((k : Int) + 1) ((k : Int) + 2) ((k : Int) + 3) w2 0 _ rfl)
  go_wp2_with fail
  go_loopw [6, 29] (fun bv iv wr => bv = .slice none 0 0 ∧ iv = .int .i64 0 ∧ wr = w2) (fun _ _ _ => 0)
  case atStart => exact ⟨rfl, rfl, rfl⟩
  case round =>
    obtain ⟨rfl, rfl, rfl⟩ := hrel
    go_wp2_with fail
    rw [IX.out]
    go_wp2_with fail
    refine (KR.out _ O2.out).mono ?_
    rintro e w3 ⟨rfl, rfl⟩
    go_wp2_with fail
    exact bodyPost_ret (results_cell_p rfl rfl ZB.out) rfl ⟨rfl, ZO.out⟩
set_option maxRecDepth 100000 in
set_option maxHeartbeats 8000000 in
theorem pread_up {w : World} {L : Dk.Loc} {n : Nat} {d : D} (hd : DiskAt w L n d) (id : Nat) (h : id < manyF n) (hdn : d.down = false) :
    Calls Try.prog 18 #[dp L.b, .int .i64 (id : Nat)] w fun e w' => e = .returned (.tuple #[(preadF d n id).1.val, .int .i64 (preadF d n id).2]) ∧ Below w.heap.size w w' := by
  have hn := hd.ok.small
  have hnow := hd.ok.now
  have hmn : manyF n ≤ 1023 := by unfold manyF; omega
  have hkn : 2 + 4 * id + 3 < n := by unfold manyF at h; omega
  have B0 := Lib.hid (Blk.new w 23 zeroC)
  have O0 := belowAlloc (Below.refl w.heap.size w) (.cells zeroC 23)
  have K := Lib.hid (many_any (hd.below O0))
  have O0 := Lib.hid O0
  have KS := Lib.hid (fun w => psectors_any (w := w) id (by omega))
  have KR := fun i (hi : i ≤ 3) w' (hb : Below w.heap.size w w') => by
    have h := read_any (hd.below hb) ((2 + 4 * id + i : Nat) : Int)
    rw [readF_up d n _ (by omega) hdn] at h
    exact h
  have KR := Lib.hid KR
  obtain ⟨l, hl⟩ : ∃ l, (d.now.drop (64 * (2 + 4 * id))).take 256 = l := ⟨_, rfl⟩
  have hres : preadF d n id = if (gotF l).2 ≠ 0 then (.zero, (gotF l).2) else if (gotF l).1.id ≠ (id : Int) then (.zero, 14) else ((gotF l).1, 0) := by
    unfold preadF
    rw [if_neg (by omega), if_neg (by simp [hdn]), show ((id : Nat) : Int).toNat = id from by omega, hl]
  generalize preadF d n id = R at *
  have HR := Lib.hid hres
  have HLen := Lib.hid (show ((d.now.drop (64 * (2 + 4 * id))).take 256).length = 256 from by rw [List.length_take, List.length_drop]; omega)
  have HNX := Lib.hid (sec_next d.now (2 + 4 * id))
  have HL := Lib.hid hl
  have KG := Lib.hid (fun w => pget_any (w := w) ⟨l.toArray⟩)
  have HLN := Lib.hid (show ∀ i, i ≤ 4 → ((d.now.drop (64 * (2 + 4 * id))).take (64 * i)).length = 64 * i from fun i hi => by rw [List.length_take, List.length_drop]; omega)
  have HSZ := Lib.hid (show ∀ i, i ≤ 3 → (sec d.now (2 + 4 * id + i)).length = 64 from fun i hi => sec_length hnow (by omega))
  have h1 : ¬ ((id : Nat) : Int) < 0 := by omega
  have h2 : ¬ ((manyF n : Nat) : Int) ≤ (id : Int) := by omega
  clear hd hl hres hnow
  generalize manyF n = mn at *
  generalize 2 + 4 * id = k at *
  unfold dp fourI at *
  go_enter Try.func18, Try.ntmps18
  go_wp2_with fail
  refine K.out.mono ?_
  rintro e w1 ⟨rfl, rfl⟩
  go_wp2_with fail
  refine (KS.out _).mono ?_
  rintro e w2 ⟨rfl, hb2⟩
  have O2 := Lib.hid (bstep O0.out hb2)
  have B2 := Lib.hid (B0.out.below hb2 B0.out.lt)
  have y2 := B2.out.lt
  clear hb2 B0 O0 K KS
  go_wp2_with fail
  go_loopw [6, 29] (fun bv iv wr => ∃ i : Nat, i ≤ 4 ∧ iv = .int .i64 i ∧ Slc wr 5 1 bv (64 * i) (bvs ((d.now.drop (64 * k)).take (64 * i))) ∧ Hid (Below w.heap.size w wr) ∧ Hid (Below w2.heap.size w2 wr) ∧ Hid (∀ g ∈ ownB bv, w2.heap.size ≤ g)) (fun _ iv _ => 4 - (intOf iv).toNat)
  case atStart => exact ⟨0, by omega, rfl, by rw [Nat.mul_zero, List.take_zero]; exact Slc.nil _ _ _, O2, Lib.hid (Below.refl _ _), Lib.hid (by simp [ownB])⟩
  case round =>
    obtain ⟨i, hi, rfl, S, O, OB, F⟩ := hrel
    have ii : i = 0 ∨ i = 1 ∨ i = 2 ∨ i = 3 ∨ i = 4 := by omega
    rcases ii with rfl | rfl | rfl | rfl | rfl
    · have hr := KR.out 0 (by omega) _ O.out
      rw [show ((k + 0 : Nat) : Int) = (k : Int) from by omega] at hr
      have KR1 := Lib.hid hr
      have S : Slc wr 5 1 _ 0 (bvs ((d.now.drop (64 * k)).take 0)) := S
      obtain ⟨V1, vc1, rfl⟩ := slc_val S
      obtain ⟨U, hU⟩ : ∃ U : ByteArray, (⟨(sec d.now (k + 0)).toArray⟩ : ByteArray) = U := ⟨_, rfl⟩
      rw [hU] at KR1
      have hUl : U.data.toList = sec d.now (k + 0) := by rw [← hU]
      have hUs : U.size = 64 := by rw [← hU, str_size]; exact HSZ.out 0 (by omega)
      obtain ⟨v2, w4, ea, S2, ow, fr⟩ := append_str (P := Try.prog) S 62 9 62 Try.underlying62 Try.underlying9 Crc.info_u8 U (by rw [hUs]; omega)
      obtain ⟨V2, vc2, rfl⟩ := slc_val S2
      rw [hUs] at ea S2 fr
      have EA := Lib.hid (show appStr Try.prog 62 9 62 wr (.slice V1 0 vc1) (.string U) = .ok (.slice V2 64 vc2) w4 from ea)
      have SX := Lib.hid (show Slc w4 5 1 (.slice V2 64 vc2) (64 * 1) (bvs ((d.now.drop (64 * k)).take (64 * 1))) from by
        have hn := HNX.out 0
        rw [show 64 * (0 + 1) = 64 * 1 from rfl, ← hUl] at hn
        rw [hn, bvs_append]
        exact S2)
      have OX := Lib.hid (O.out.trans (ow.below_of O.out.size (fun g hg => Nat.le_trans O2.out.size (F.out g hg))))
      have OBX := Lib.hid (OB.out.trans (ow.below_of OB.out.size F.out))
      have FX := Lib.hid (show ∀ g ∈ ownB (.slice V2 64 vc2), w2.heap.size ≤ g from fun g hg => (fr g hg).elim (F.out g) (fun h => Nat.le_trans OB.out.size h))
      have IX := Lib.hid (show (Instr.index 75 (.agg #[.int .i64 (k : Int), .int .i64 ((k : Int) + 1), .int .i64 ((k : Int) + 2), .int .i64 ((k : Int) + 3)]) (.int .i64 0)).run Try.prog wr = .ok (.int .i64 ((k : Int))) wr from idx4 (k : Int) ((k : Int) + 1) ((k : Int) + 2) ((k : Int) + 3) wr 0 _ rfl)
      clear hr ea S2 ow fr S hU hUl
      go_wp2_with fail
      rw [IX.out]
      go_wp2_with fail
      refine KR1.out.mono ?_
      rintro e wz ⟨rfl, rfl⟩
      go_wp2_with fail
      rw [EA.out]
      go_wp2_with fail
      go_roundw
      case rel => exact ⟨1, by omega, by first | rfl | simp, SX.out, OX, OBX, FX⟩
      case measure => first | decide | simp [intOf]
    · have hr := KR.out 1 (by omega) _ O.out
      rw [show ((k + 1 : Nat) : Int) = (k : Int) + 1 from by omega] at hr
      have KR1 := Lib.hid hr
      have S : Slc wr 5 1 _ 64 (bvs ((d.now.drop (64 * k)).take 64)) := S
      obtain ⟨V1, vc1, rfl⟩ := slc_val S
      obtain ⟨U, hU⟩ : ∃ U : ByteArray, (⟨(sec d.now (k + 1)).toArray⟩ : ByteArray) = U := ⟨_, rfl⟩
      rw [hU] at KR1
      have hUl : U.data.toList = sec d.now (k + 1) := by rw [← hU]
      have hUs : U.size = 64 := by rw [← hU, str_size]; exact HSZ.out 1 (by omega)
      obtain ⟨v2, w4, ea, S2, ow, fr⟩ := append_str (P := Try.prog) S 62 9 62 Try.underlying62 Try.underlying9 Crc.info_u8 U (by rw [hUs]; omega)
      obtain ⟨V2, vc2, rfl⟩ := slc_val S2
      rw [hUs] at ea S2 fr
      have EA := Lib.hid (show appStr Try.prog 62 9 62 wr (.slice V1 64 vc1) (.string U) = .ok (.slice V2 128 vc2) w4 from ea)
      have SX := Lib.hid (show Slc w4 5 1 (.slice V2 128 vc2) (64 * 2) (bvs ((d.now.drop (64 * k)).take (64 * 2))) from by
        have hn := HNX.out 1
        rw [show 64 * (1 + 1) = 64 * 2 from rfl, ← hUl] at hn
        rw [hn, bvs_append]
        exact S2)
      have OX := Lib.hid (O.out.trans (ow.below_of O.out.size (fun g hg => Nat.le_trans O2.out.size (F.out g hg))))
      have OBX := Lib.hid (OB.out.trans (ow.below_of OB.out.size F.out))
      have FX := Lib.hid (show ∀ g ∈ ownB (.slice V2 128 vc2), w2.heap.size ≤ g from fun g hg => (fr g hg).elim (F.out g) (fun h => Nat.le_trans OB.out.size h))
      have IX := Lib.hid (show (Instr.index 75 (.agg #[.int .i64 (k : Int), .int .i64 ((k : Int) + 1), .int .i64 ((k : Int) + 2), .int .i64 ((k : Int) + 3)]) (.int .i64 1)).run Try.prog wr = .ok (.int .i64 ((k : Int) + 1)) wr from idx4 (k : Int) ((k : Int) + 1) ((k : Int) + 2) ((k : Int) + 3) wr 1 _ rfl)
      clear hr ea S2 ow fr S hU hUl
      go_wp2_with fail
      rw [IX.out]
      go_wp2_with fail
      refine KR1.out.mono ?_
      rintro e wz ⟨rfl, rfl⟩
      go_wp2_with fail
      rw [EA.out]
      go_wp2_with fail
      go_roundw
      case rel => exact ⟨2, by omega, by first | rfl | simp, SX.out, OX, OBX, FX⟩
      case measure => first | decide | simp [intOf]
    · have hr := KR.out 2 (by omega) _ O.out
      rw [show ((k + 2 : Nat) : Int) = (k : Int) + 2 from by omega] at hr
      have KR1 := Lib.hid hr
      have S : Slc wr 5 1 _ 128 (bvs ((d.now.drop (64 * k)).take 128)) := S
      obtain ⟨V1, vc1, rfl⟩ := slc_val S
      obtain ⟨U, hU⟩ : ∃ U : ByteArray, (⟨(sec d.now (k + 2)).toArray⟩ : ByteArray) = U := ⟨_, rfl⟩
      rw [hU] at KR1
      have hUl : U.data.toList = sec d.now (k + 2) := by rw [← hU]
      have hUs : U.size = 64 := by rw [← hU, str_size]; exact HSZ.out 2 (by omega)
      obtain ⟨v2, w4, ea, S2, ow, fr⟩ := append_str (P := Try.prog) S 62 9 62 Try.underlying62 Try.underlying9 Crc.info_u8 U (by rw [hUs]; omega)
      obtain ⟨V2, vc2, rfl⟩ := slc_val S2
      rw [hUs] at ea S2 fr
      have EA := Lib.hid (show appStr Try.prog 62 9 62 wr (.slice V1 128 vc1) (.string U) = .ok (.slice V2 192 vc2) w4 from ea)
      have SX := Lib.hid (show Slc w4 5 1 (.slice V2 192 vc2) (64 * 3) (bvs ((d.now.drop (64 * k)).take (64 * 3))) from by
        have hn := HNX.out 2
        rw [show 64 * (2 + 1) = 64 * 3 from rfl, ← hUl] at hn
        rw [hn, bvs_append]
        exact S2)
      have OX := Lib.hid (O.out.trans (ow.below_of O.out.size (fun g hg => Nat.le_trans O2.out.size (F.out g hg))))
      have OBX := Lib.hid (OB.out.trans (ow.below_of OB.out.size F.out))
      have FX := Lib.hid (show ∀ g ∈ ownB (.slice V2 192 vc2), w2.heap.size ≤ g from fun g hg => (fr g hg).elim (F.out g) (fun h => Nat.le_trans OB.out.size h))
      have IX := Lib.hid (show (Instr.index 75 (.agg #[.int .i64 (k : Int), .int .i64 ((k : Int) + 1), .int .i64 ((k : Int) + 2), .int .i64 ((k : Int) + 3)]) (.int .i64 2)).run Try.prog wr = .ok (.int .i64 ((k : Int) + 2)) wr from idx4 (k : Int) ((k : Int) + 1) ((k : Int) + 2) ((k : Int) + 3) wr 2 _ rfl)
      clear hr ea S2 ow fr S hU hUl
      go_wp2_with fail
      rw [IX.out]
      go_wp2_with fail
      refine KR1.out.mono ?_
      rintro e wz ⟨rfl, rfl⟩
      go_wp2_with fail
      rw [EA.out]
      go_wp2_with fail
      go_roundw
      case rel => exact ⟨3, by omega, by first | rfl | simp, SX.out, OX, OBX, FX⟩
      case measure => first | decide | simp [intOf]
    · have hr := KR.out 3 (by omega) _ O.out
      rw [show ((k + 3 : Nat) : Int) = (k : Int) + 3 from by omega] at hr
      have KR1 := Lib.hid hr
      have S : Slc wr 5 1 _ 192 (bvs ((d.now.drop (64 * k)).take 192)) := S
      obtain ⟨V1, vc1, rfl⟩ := slc_val S
      obtain ⟨U, hU⟩ : ∃ U : ByteArray, (⟨(sec d.now (k + 3)).toArray⟩ : ByteArray) = U := ⟨_, rfl⟩
      rw [hU] at KR1
      have hUl : U.data.toList = sec d.now (k + 3) := by rw [← hU]
      have hUs : U.size = 64 := by rw [← hU, str_size]; exact HSZ.out 3 (by omega)
      obtain ⟨v2, w4, ea, S2, ow, fr⟩ := append_str (P := Try.prog) S 62 9 62 Try.underlying62 Try.underlying9 Crc.info_u8 U (by rw [hUs]; omega)
      obtain ⟨V2, vc2, rfl⟩ := slc_val S2
      rw [hUs] at ea S2 fr
      have EA := Lib.hid (show appStr Try.prog 62 9 62 wr (.slice V1 192 vc1) (.string U) = .ok (.slice V2 256 vc2) w4 from ea)
      have SX := Lib.hid (show Slc w4 5 1 (.slice V2 256 vc2) (64 * 4) (bvs ((d.now.drop (64 * k)).take (64 * 4))) from by
        have hn := HNX.out 3
        rw [show 64 * (3 + 1) = 64 * 4 from rfl, ← hUl] at hn
        rw [hn, bvs_append]
        exact S2)
      have OX := Lib.hid (O.out.trans (ow.below_of O.out.size (fun g hg => Nat.le_trans O2.out.size (F.out g hg))))
      have OBX := Lib.hid (OB.out.trans (ow.below_of OB.out.size F.out))
      have FX := Lib.hid (show ∀ g ∈ ownB (.slice V2 256 vc2), w2.heap.size ≤ g from fun g hg => (fr g hg).elim (F.out g) (fun h => Nat.le_trans OB.out.size h))
      have IX := Lib.hid (show (Instr.index 75 (.agg #[.int .i64 (k : Int), .int .i64 ((k : Int) + 1), .int .i64 ((k : Int) + 2), .int .i64 ((k : Int) + 3)]) (.int .i64 3)).run Try.prog wr = .ok (.int .i64 ((k : Int) + 3)) wr from idx4 (k : Int) ((k : Int) + 1) ((k : Int) + 2) ((k : Int) + 3) wr 3 _ rfl)
      clear hr ea S2 ow fr S hU hUl
      go_wp2_with fail
      rw [IX.out]
      go_wp2_with fail
      refine KR1.out.mono ?_
      rintro e wz ⟨rfl, rfl⟩
      go_wp2_with fail
      rw [EA.out]
      go_wp2_with fail
      go_roundw
      case rel => exact ⟨4, by omega, by first | rfl | simp, SX.out, OX, OBX, FX⟩
      case measure => first | decide | simp [intOf]
    · have ST := Lib.hid (str_slc (P := Try.prog) S 62 9 Try.underlying62 Try.underlying5 Try.underlying9)
      rw [show 64 * 4 = 256 from rfl, HL.out] at ST
      obtain ⟨VA, vc, rfl⟩ := slc_val S
      have B3 := Lib.hid (B2.out.below OB.out y2)
      clear S
      go_wp2_with fail
      rw [ST.out]
      go_wp2_with fail
      refine (KG.out _).mono ?_
      rintro e w5 ⟨rfl, hb5⟩
      obtain ⟨P, hP⟩ : ∃ P, (gotF l).1 = P := ⟨_, rfl⟩
      obtain ⟨er, her⟩ : ∃ er, (gotF l).2 = er := ⟨_, rfl⟩
      have GP := Lib.hid (And.intro hP her)
      rw [hP, her]
      clear hP her
      obtain ⟨pid, pep, pkd, ps⟩ := P
      have O6 := Lib.hid (belowAlloc (bstep O.out hb5) (.cells #[.int .i64 pid, .int .i64 pep, .int .i64 pkd, .string ⟨ps.toArray⟩] 23))
      have B6 := Lib.hid ((B3.out.below hb5 B3.out.lt).alloc (.cells #[.int .i64 pid, .int .i64 pep, .int .i64 pkd, .string ⟨ps.toArray⟩] 23))
      have P6 := Lib.hid (Blk.new w5 23 #[.int .i64 pid, .int .i64 pep, .int .i64 pkd, .string ⟨ps.toArray⟩])
      clear hb5 B3
      unfold PG.val pageV
      dsimp only
      have z0 := B6.out.frozen 0 (by simp)
      have z1 := B6.out.frozen 1 (by simp)
      have z2 := B6.out.frozen 2 (by simp)
      have z3 := B6.out.frozen 3 (by simp)
      have c0 := B6.out.cell_some (i := 0) rfl
      have c1 := B6.out.cell_some (i := 1) rfl
      have c2 := B6.out.cell_some (i := 2) rfl
      have c3 := B6.out.cell_some (i := 3) rfl
      have p0 := P6.out.cell_some (i := 0) rfl
      have p1 := P6.out.cell_some (i := 1) rfl
      have p2 := P6.out.cell_some (i := 2) rfl
      have p3 := P6.out.cell_some (i := 3) rfl
      have ZB := Lib.hid (storeP B6.out rfl 0 0 0 ⟨#[]⟩)
      have ZO := Lib.hid (storeP_below O6.out (Nat.le_refl _) 0 0 0 ⟨#[]⟩)
      have YB := Lib.hid (storeP B6.out rfl pid pep pkd ⟨ps.toArray⟩)
      have YO := Lib.hid (storeP_below O6.out (Nat.le_refl _) pid pep pkd ⟨ps.toArray⟩)
      by_cases her : er = 0
      · subst her
        by_cases hpi : pid = id
        · have hq : (pid != (id : Int)) = false := by rw [bne_eq_false_iff_eq]; exact hpi
          have RES := Lib.hid (show (if (gotF l).2 ≠ 0 then (PG.zero, (gotF l).2) else if (gotF l).1.id ≠ (id : Int) then (PG.zero, 14) else ((gotF l).1, 0)) = (⟨pid, pep, pkd, ps⟩, 0) from by
            rw [GP.out.1, GP.out.2]; simp [hpi])
          clear hpi
          go_wp2_with fail
          exact bodyPost_ret (results_cell_p rfl rfl YB.out) rfl ⟨by rw [HR.out.trans RES.out]; rfl, YO.out⟩
        · have hq : (pid != (id : Int)) = true := by rw [bne_iff_ne]; exact hpi
          have RES := Lib.hid (show (if (gotF l).2 ≠ 0 then (PG.zero, (gotF l).2) else if (gotF l).1.id ≠ (id : Int) then (PG.zero, 14) else ((gotF l).1, 0)) = (PG.zero, 14) from by
            rw [GP.out.1, GP.out.2]; simp [hpi])
          clear hpi
          go_wp2_with fail
          exact bodyPost_ret (results_cell_p rfl rfl ZB.out) rfl ⟨by rw [HR.out.trans RES.out]; rfl, ZO.out⟩
      · have hq : (er != 0) = true := by rw [bne_iff_ne]; exact her
        have RES := Lib.hid (show (if (gotF l).2 ≠ 0 then (PG.zero, (gotF l).2) else if (gotF l).1.id ≠ (id : Int) then (PG.zero, 14) else ((gotF l).1, 0)) = (PG.zero, er) from by
          rw [GP.out.1, GP.out.2, if_pos her])
        clear her
        go_wp2_with fail
        exact bodyPost_ret (results_cell_p rfl rfl ZB.out) rfl ⟨by rw [HR.out.trans RES.out]; rfl, ZO.out⟩
theorem pread_any {w : World} {L : Dk.Loc} {n : Nat} {d : D} (hd : DiskAt w L n d) (id : Int) :
    Calls Try.prog 18 #[dp L.b, .int .i64 id] w fun e w' => e = .returned (.tuple #[(preadF d n id).1.val, .int .i64 (preadF d n id).2]) ∧ Below w.heap.size w w' := by
  by_cases h0 : id < 0
  · have : preadF d n id = (.zero, 3) := by unfold preadF; rw [if_pos (.inl h0)]
    rw [this]
    exact pread_neg L.b id h0
  · by_cases h1 : (manyF n : Int) ≤ id
    · have : preadF d n id = (.zero, 3) := by unfold preadF; rw [if_pos (.inr h1)]
      rw [this]
      exact pread_far hd id (by omega) h1
    · obtain ⟨a, rfl⟩ := Int.eq_ofNat_of_zero_le (show 0 ≤ id by omega)
      cases hdn : d.down
      · exact pread_up hd a (by omega) hdn
      · have : preadF d n a = (.zero, 13) := by unfold preadF; rw [if_neg (by omega), if_pos hdn]
        rw [this]
        exact pread_down hd a (by omega) hdn
end Go.Proofs.Ytmofbgcanehdoaa.Pg
