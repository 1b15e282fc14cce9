/- pages: a page laid, whole. -/
import Derived.Test.YtmofbgcanehdoaaPg2
namespace Go.Proofs.Ytmofbgcanehdoaa.Pg
open Go.RowKit Pk
attribute [local go_sem ↓] Go.wp_at_zero Go.wp_at_succ exec_app
theorem packI_len (n : Int) : (packI n).length = 8 := by unfold packI be8; rw [beK_length]
theorem exl (u : ByteArray) (a b : Nat) : (u.extract a b).data.toList = (u.data.toList.drop a).take (b - a) := by
  rw [ByteArray.data_extract, Array.toList_extract, List.extract_eq_take_drop]
theorem be8_len (n : Nat) : (be8 n).length = 8 := by unfold be8; rw [beK_length]
theorem str_size (l : List UInt8) : (⟨l.toArray⟩ : ByteArray).size = l.length := by show l.toArray.size = _; simp
set_option maxRecDepth 100000 in
set_option maxHeartbeats 8000000 in
theorem pput_yes {w : World} (id ep kd : Nat) (s : ByteArray) (hid : id < 9223372036854775808) (hep : ep ≤ 1099511627776) (hkd : kd ≤ 2147483647) (hs : s.size ≤ 232) :
    Calls Try.prog 9 #[pageV id ep kd s] w fun e w' => e = .returned (.tuple #[.string ⟨(pageL id ep kd s.data.toList).toArray⟩, .int .i64 0]) ∧ Below w.heap.size w w' := by
  have hok : okP id ep kd = true := by rw [okP_iff]; omega
  have B0 := Blk.new w 23 #[.int .i64 (id : Nat), .int .i64 (ep : Nat), .int .i64 (kd : Nat), .string s]
  have O0 := Lib.hid (belowAlloc (Below.refl w.heap.size w) (.cells #[.int .i64 (id : Nat), .int .i64 (ep : Nat), .int .i64 (kd : Nat), .string s] 23))
  have KR := Lib.hid (fun w => pright_any (w := w) id ep kd s true hok)
  have c0 := B0.cell_some (i := 0) rfl
  have c1 := B0.cell_some (i := 1) rfl
  have c2 := B0.cell_some (i := 2) rfl
  have c3 := B0.cell_some (i := 3) rfl
  have B0 := Lib.hid B0
  have hsI : ¬ (232 : Int) < (s.size : Int) := by omega
  unfold pageV at *
  go_enter Try.func9, Try.ntmps9
  go_wp2_with fail
  refine (KR.out _).mono ?_
  rintro e w1 ⟨rfl, hb1⟩
  have O1 := Lib.hid (bstep O0.out hb1)
  have B1 := Lib.hid (B0.out.below hb1 B0.out.lt)
  have a1 := O1.out.size
  have a2 : w.heap.size < w1.heap.size := B1.out.lt
  clear c0 c1 c2 c3 hb1 B0 O0
  have c3 := B1.out.cell_some (i := 3) rfl
  -- the buffer
  have B2 := Lib.hid (B1.out.alloc (.cells #[.slice none 0 0] 62))
  have O2 := Lib.hid (belowAlloc O1.out (.cells #[.slice none 0 0] 62))
  have F2 : Hid (Buf w1.heap.size (w1.alloc (.cells #[.slice none 0 0] 62)) w1.heap.size (.slice none 0 0) []) := Lib.hid ⟨Blk.new _ _ _, Slc.nil _ _ _, by simp [ownB], Nat.le_refl _⟩
  have z2 : w1.heap.size ≤ (w1.alloc (.cells #[.slice none 0 0] 62)).heap.size := by simp
  have d0 := B2.out.cell_some (i := 0) rfl
  have KI := Lib.hid (I_all id hid)
  have KE := Lib.hid (I_all ep (by omega))
  have KU := Lib.hid (U_any kd (by omega))
  have HS := Lib.hid hs
  go_wp2_with fail
  refine (KI.out _).mono ?_
  rintro e w3 ⟨rfl, hb3⟩
  have O3 := Lib.hid (bstep O2.out hb3)
  have B3 := Lib.hid (B2.out.below hb3 B2.out.lt)
  have F3 := Lib.hid (F2.out.below hb3)
  have z3 := Nat.le_trans z2 hb3.size
  clear d0 hb3 B2 O2 F2 z2 c3
  go_wp2_with fail
  refine (add_any F3.out z3 _ (by rw [str_size, packI_len]; simp)).mono ?_
  rintro e w4 ⟨rfl, ⟨v4, f4⟩, hb4⟩
  have O4 := Lib.hid (O3.out.trans (hb4.mono a1))
  have B4 := Lib.hid (B3.out.below hb4 a2)
  have F4 := Lib.hid f4
  have z4 := Nat.le_trans z3 hb4.size
  clear f4 hb4 O3 B3 F3 z3
  have d1 := B4.out.cell_some (i := 1) rfl
  go_wp2_with fail
  refine (KE.out _).mono ?_
  rintro e w5 ⟨rfl, hb5⟩
  have O5 := Lib.hid (bstep O4.out hb5)
  have B5 := Lib.hid (B4.out.below hb5 B4.out.lt)
  have F5 := Lib.hid (F4.out.below hb5)
  have z5 := Nat.le_trans z4 hb5.size
  clear hb5 O4 B4 F4 z4
  clear d1
  go_wp2_with fail
  refine (add_any F5.out z5 _ (by simp [packI_len, str_size])).mono ?_
  rintro e w6 ⟨rfl, ⟨v6, f6⟩, hb6⟩
  have O6 := Lib.hid (O5.out.trans (hb6.mono a1))
  have B6 := Lib.hid (B5.out.below hb6 a2)
  have F6 := Lib.hid f6
  have z6 := Nat.le_trans z5 hb6.size
  clear f6 hb6 O5 B5 F5 z5
  have d2 := B6.out.cell_some (i := 2) rfl
  have q1 : IntKind.u64.wrap (kd : Int) = (kd : Int) := IntWalk.u64_in _ (by omega)
  obtain ⟨U, hU⟩ : ∃ U : ByteArray, (⟨(be8 kd).toArray⟩ : ByteArray) = U := ⟨_, rfl⟩
  have hU8 : U.size = 8 := by rw [← hU, str_size, be8_len]
  have hUl : (U.extract 4 8).data.toList = (be8 kd).drop 4 := by
    rw [← hU, exl]
    exact List.take_of_length_le (by rw [List.length_drop]; have := be8_len kd; simp [this])
  rw [hU] at KU
  have HU := Lib.hid hU
  have HUL := Lib.hid hUl
  clear hU hUl
  go_wp2_with fail
  refine (KU.out _).mono ?_
  rintro e w7 ⟨rfl, hb7⟩
  have O7 := Lib.hid (bstep O6.out hb7)
  have B7 := Lib.hid (B6.out.below hb7 B6.out.lt)
  have F7 := Lib.hid (F6.out.below hb7)
  have z7 := Nat.le_trans z6 hb7.size
  clear hb7 O6 B6 F6 z6
  clear d2
  go_wp2_with fail
  refine (add_any F7.out z7 _ (by simp [packI_len, str_size, ByteArray.size_extract]; omega)).mono ?_
  rintro e w8 ⟨rfl, ⟨v8, f8⟩, hb8⟩
  have O8 := Lib.hid (O7.out.trans (hb8.mono a1))
  have B8 := Lib.hid (B7.out.below hb8 a2)
  have F8 := Lib.hid f8
  have z8 := Nat.le_trans z7 hb8.size
  clear f8 hb8 O7 B7 F7 z7
  have d3 := B8.out.cell_some (i := 3) rfl
  go_wp2_with fail
  refine (add_any F8.out z8 _ (by simp [packI_len, str_size, ByteArray.size_extract]; omega)).mono ?_
  rintro e w9 ⟨rfl, ⟨v9, f9⟩, hb9⟩
  have O9 := Lib.hid (O8.out.trans (hb9.mono a1))
  have B9 := Lib.hid (B8.out.below hb9 a2)
  have F9 := Lib.hid f9
  have z9 := Nat.le_trans z8 hb9.size
  clear f9 hb9 O8 B8 F8 z8
  clear d3
  have L9 := Lib.hid (show ([] ++ packI (id : Int) ++ packI (ep : Int) ++ (U.extract 4 8).data.toList ++ s.data.toList) = bodyL id ep kd s.data.toList from by rw [HUL.out, List.nil_append]; rfl)
  have F9 := Lib.hid (show Buf w1.heap.size w9 w1.heap.size v9 (bodyL id ep kd s.data.toList) from by have h := F9.out; rw [← L9.out]; exact h)
  have HB := Lib.hid (show (bodyL id ep kd s.data.toList).length = 20 + s.size from by unfold bodyL; simp [packI_len, be8_len]; omega)
  obtain ⟨L, hL⟩ : ∃ L, bodyL (id : Int) ep kd s.data.toList = L := ⟨_, rfl⟩
  rw [hL] at F9 HB
  have HL := Lib.hid hL
  clear hL
  clear L9 HU HUL hU8 KI KE KU KR
  go_wp2_with fail
  go_loopg [37] 253 (fun k lv wr => ∃ v j, 20 + s.size + j ≤ 252 ∧ 253 - (20 + s.size + j) ≤ k ∧ Hid (Buf w1.heap.size wr w1.heap.size v (L ++ List.replicate j 0)) ∧ Hid (Below w.heap.size w wr) ∧ w1.heap.size ≤ wr.heap.size)
  case atStart => exact ⟨v9, 0, by omega, by omega, Lib.hid (by rw [List.replicate_zero, List.append_nil]; exact F9.out), Lib.hid O9.out, z9⟩
  case round =>
    obtain ⟨v, j, hj, hk, F, O, z⟩ := hrel
    have hlen : (L ++ List.replicate j 0).length = 20 + s.size + j := by rw [List.length_append, HB.out, List.length_replicate]
    have e0 := F.out.blk.cell_some (i := 0) rfl
    have hsv := F.out.slc
    rw [hlen] at hsv
    obtain ⟨VA, vc, rfl⟩ := slc_val hsv
    by_cases h' : 20 + s.size + j < 252
    · have hI : ((20 + s.size + j : Nat) : Int) < 252 := by omega
      obtain ⟨v', w2, ea, S2, ow, fr⟩ := append_one (P := Try.prog) hsv 62 62 (.int .u8 0) 1 Try.underlying62 Crc.info_u8 rfl (.int .u8 0) rfl (by unfold maxLen; omega) (by omega)
      obtain ⟨V2, vc2, rfl⟩ := slc_val S2
      have S3 : Slc w2 5 1 (.slice V2 (20 + s.size + j + 1) vc2) ((L ++ List.replicate j 0).length + [(0 : UInt8)].length) (bvs (L ++ List.replicate j 0 ++ [0])) := by
        rw [hlen, bvs_append]; exact S2
      obtain ⟨c1, z1, B2, O2⟩ := F.out.grow z S3 ow fr
      have z2 : w1.heap.size ≤ (w2.setCell ⟨w1.heap.size, 0, none⟩ (.slice V2 (20 + s.size + j + 1) vc2)).heap.size := by
        have := ow.size; simp [World.setCell]; omega
      have EA := Lib.hid ea
      have BX := Lib.hid (show Buf w1.heap.size (w2.setCell ⟨w1.heap.size, 0, none⟩ (.slice V2 (20 + s.size + j + 1) vc2)) w1.heap.size (.slice V2 (20 + s.size + j + 1) vc2) (L ++ List.replicate (j + 1) 0) from by
        rw [List.replicate_succ', ← List.append_assoc]; exact B2)
      have OX := Lib.hid (O.out.trans (O2.mono a1))
      clear ea S2 S3 ow fr B2 O2 hsv hlen
      go_wp2_with fail
      rw [EA.out]
      go_wp2_with fail
      go_roundg (253 - (20 + s.size + (j + 1)))
      case measure => omega
      case rel => exact ⟨_, j + 1, by omega, Nat.le_refl _, BX, OX, z2⟩
    · have hje : 20 + s.size + j = 252 := by omega
      have hpad : L ++ List.replicate j 0 = padL L 252 := by unfold padL; rw [HB.out]; congr 2; omega
      rw [hpad] at F
      have hpl : (padL L 252).length = 252 := by rw [← hpad, hlen, hje]
      rw [hje] at e0 hsv
      rw [hpad] at hsv
      clear hpad hlen
      obtain ⟨g, cap, rest, hv, B, _⟩ := hsv.form (by omega) (by omega)
      injection hv with hv1 hv2 hv3
      subst hv1 hv3
      have ST := Lib.hid (run_string_of (P := Try.prog) wr 62 9 5 Try.underlying62 Try.underlying5 Try.underlying9 ⟨g, 0, none⟩ 252 vc (padL L 252) hpl (cells_at B 0 _ (by intro j u hu; rw [Nat.zero_add]; exact List.getElem?_append_left (List.getElem?_eq_some_iff.1 hu).1 ▸ hu)))
      have KL := Lib.hid (Crc.lay_any ⟨(padL L 252).toArray⟩ wr (by rw [str_size, hpl]; omega))
      have HF := Lib.hid (show Crc.layF (padL L 252) = pageL id ep kd s.data.toList from by unfold pageL; rw [HL.out])
      clear F B hsv hpl
      go_wp2_with fail
      rw [ST.out]
      go_wp2_with fail
      refine KL.out.mono ?_
      rintro e wz ⟨rfl, hbz⟩
      have OZ := Lib.hid (bstep O.out hbz)
      clear hbz
      go_wp2_with fail
      go_ret2
      exact ⟨by rw [← HF.out]; rfl, OZ.out⟩
end Go.Proofs.Ytmofbgcanehdoaa.Pg
