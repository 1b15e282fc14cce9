/- pages on a disk: Write, whole. -/
import Derived.Test.YtmofbgcanehdoaaPg10
import Derived.Test.YtmofbgcanehdoaaDisk4
namespace Go.Proofs.Ytmofbgcanehdoaa.Pg
open Go.RowKit Pk Dk
attribute [local go_sem ↓] Go.wp_at_zero Go.wp_at_succ
theorem idx4 (a0 a1 a2 a3 : Int) (w : World) (k : Nat) (x : Value) (hx : #[Value.int .i64 a0, .int .i64 a1, .int .i64 a2, .int .i64 a3][k]? = some x) :
    (Instr.index 75 (.agg #[.int .i64 a0, .int .i64 a1, .int .i64 a2, .int .i64 a3]) (.int .i64 (k : Int))).run Try.prog w = .ok x w := by
  have hu : Try.prog.underlying 75 = some (.array 4 3) := by kernel_rfl
  have hm : (Try.prog.info? 3).map (·.size) = some 1 := by kernel_rfl
  have hp : Try.prog.plainKey 3 = true := by kernel_rfl
  have hk : k < 4 := by
    rcases Nat.lt_or_ge k 4 with h | h
    · exact h
    · rw [Array.getElem?_eq_none (by simpa using h)] at hx; cases hx
  cases hq : Try.prog.info? 3 with
  | none => simp [hq] at hm
  | some i =>
    simp only [hq, Option.map_some, Option.some.injEq] at hm
    have := run_part_plain (P := Try.prog) w hp hx
    simp [Instr.index, asIntOf, run_underlying hu, hk, sizeOf, typeInfo, hq, hm]
    exact this
set_option maxRecDepth 100000 in
set_option maxHeartbeats 8000000 in
theorem pwrite_yes {w : World} {L : Dk.Loc} {n : Nat} {d : D} (h : DiskAt w L n d) (id : Nat) (ep kd : Int) (s : ByteArray) (hp : (putF id ep kd s.data.toList).2 = 0) (hm : id < manyF n) (hc : d.calls ≤ 999999990) (hr : d.armed ≤ 9223372036854775807) :
    Calls Try.prog 16 #[dp L.b, pageV id ep kd s] w fun e w' => e = .returned (.int .i64 (w4 d n (2 + 4 * id) (putF id ep kd s.data.toList).1 4).2) ∧ DiskAt w' L n (w4 d n (2 + 4 * id) (putF id ep kd s.data.toList).1 4).1 ∧ Only L.fp w w' := by
  have hn := h.ok.small
  have hmn : manyF n ≤ 1023 := by unfold manyF; omega
  have O0 := Lib.hid (belowAlloc (Below.refl w.heap.size w) (.cells #[.int .i64 (id : Nat), .int .i64 ep, .int .i64 kd, .string s] 23))
  have B0 := Lib.hid (Blk.new w 23 #[.int .i64 (id : Nat), .int .i64 ep, .int .i64 kd, .string s])
  have K := fun w => pput_any (w := w) id ep kd s (by omega)
  have hlen := (putF_len hp).1
  rw [hp] at K
  obtain ⟨T, hT⟩ : ∃ T : ByteArray, (⟨(putF id ep kd s.data.toList).1.toArray⟩ : ByteArray) = T := ⟨_, rfl⟩
  rw [hT] at K
  have hTl : T.data.toList = (putF id ep kd s.data.toList).1 := by rw [← hT]
  have hTs : T.size = 256 := by rw [← hT, str_size, hlen]
  rw [← hTl]
  have HX := Lib.hid (show ∀ i : Nat, (T.extract (64 * i) (64 * (i + 1))).data.toList = (T.data.toList.drop (64 * i)).take 64 from fun i => by rw [exl, show 64 * (i + 1) - 64 * i = 64 by omega])
  have K := Lib.hid K
  have KM := Lib.hid (fun w' (hb : Below w.heap.size w w') => many_any (h.below hb))
  have KS := Lib.hid (fun w => psectors_any (w := w) id (by omega))
  have HB := Lib.hid (w4_bd d n (2 + 4 * id) T.data.toList hr)
  have H4 := Lib.hid (w4_ok d n (2 + 4 * id) T.data.toList)
  have HS := Lib.hid (w4_stop d n (2 + 4 * id) T.data.toList)
  have HC := Lib.hid hc
  have HD := Lib.hid h
  have hmI : ¬ ((manyF n : Nat) : Int) ≤ (id : Int) := by omega
  have c0 := B0.out.cell_some (i := 0) rfl
  have c1 := B0.out.cell_some (i := 1) rfl
  have c2 := B0.out.cell_some (i := 2) rfl
  have c3 := B0.out.cell_some (i := 3) rfl
  generalize manyF n = mn at *
  clear h hp hT hTl hlen hc hr
  unfold pageV dp fourI at *
  generalize hk : 2 + 4 * id = k at *
  clear hk
  go_enter Try.func16, Try.ntmps16
  go_wp2_with fail
  refine (K.out _).mono ?_
  rintro e w1 ⟨rfl, hb1⟩
  have O1 := Lib.hid (bstep O0.out hb1)
  have B1 := Lib.hid (B0.out.below hb1 B0.out.lt)
  clear hb1 c0 c1 c2 c3 K
  have c0 := B1.out.cell_some (i := 0) rfl
  have KX := Lib.hid (fun m => KM.out (w1.drewN m) (Below_drewN O1.out m))
  go_wp2_with fail
  go_quiet ((go_at_call 19; exact quietS (KX.out _)))
  have O2 := Lib.hid (Below_drewN O1.out nq)
  have B2 := Lib.hid (B1.out.drewN nq)
  generalize hw2 : w1.drewN nq = w2 at *
  clear c0 O1 B1 hw2 KX KM
  have c0 := B2.out.cell_some (i := 0) rfl
  go_wp2_with fail
  refine (KS.out _).mono ?_
  rintro e w3 ⟨rfl, hb3⟩
  have O3 := Lib.hid (bstep O2.out hb3)
  have D3 := Lib.hid (HD.out.below O3.out)
  clear hb3 c0 KS O2 B2
  go_wp2_with fail
  go_loopw [30] (fun iv wr => ∃ i : Nat, i ≤ 4 ∧ iv = .int .i64 i ∧ Hid (DiskAt wr L n (w4 d n k T.data.toList i).1) ∧ Hid ((w4 d n k T.data.toList i).2 = 0) ∧ Hid (Only L.fp w wr)) (fun iv _ => 4 - (intOf iv).toNat)
  case atStart => exact ⟨0, by omega, rfl, D3, Lib.hid rfl, Lib.hid (.of_below O3.out)⟩
  case round =>
    obtain ⟨i, hi, rfl, DD, EZ, O⟩ := hrel
    have ii : i = 0 ∨ i = 1 ∨ i = 2 ∨ i = 3 ∨ i = 4 := by omega
    rcases ii with rfl | rfl | rfl | rfl | rfl
    · have bd := HB.out 0
      have KW := write_any DD.out ((k : Int)) (T.extract 0 64) (by have := HC.out; omega) (by omega)
      have hx := HX.out 0
      have h4 := H4.out 0 EZ.out
      rw [show (T.extract 0 64).data.toList = (T.data.toList.drop (64 * 0)).take 64 from hx, show ((k : Int)) = (k : Int) + ((0 : Nat) : Int) from by omega, ← h4, show (k : Int) + ((0 : Nat) : Int) = (k : Int) from by omega] at KW
      have KW := Lib.hid KW
      clear hx h4 bd
      have IX := Lib.hid (show (Instr.index 75 (.agg #[.int .i64 (k : Int), .int .i64 ((k : Int) + 1), .int .i64 ((k : Int) + 2), .int .i64 ((k : Int) + 3)]) (.int .i64 0)).run Try.prog wr = .ok (.int .i64 ((k : Int))) wr from idx4 (k : Int) ((k : Int) + 1) ((k : Int) + 2) ((k : Int) + 3) wr 0 _ rfl)
      go_wp2_with fail
      rw [IX.out]
      go_wp2_with fail
      refine KW.out.mono ?_
      rintro e wz ⟨rfl, dd, oz⟩
      have DZ := Lib.hid dd
      have OZ := Lib.hid (O.out.trans oz)
      clear dd oz KW
      by_cases hz : (w4 d n k T.data.toList 1).2 = 0
      · have HZ := Lib.hid hz
        have hq : ((w4 d n k T.data.toList 1).2 != 0) = false := by rw [hz]; rfl
        clear hz
        go_wp2_with fail
        go_roundw
        case rel => exact ⟨1, by omega, by first | rfl | simp, DZ, HZ, OZ⟩
        case measure => first | decide | simp [intOf]
      · have hs := HS.out 1 4 hz (by omega)
        have HSS := Lib.hid hs
        have hq : ((w4 d n k T.data.toList 1).2 != 0) = true := by rw [bne_iff_ne]; exact hz
        clear hz hs
        go_wp2_with fail
        go_ret
        exact ⟨by first | rfl | (rw [HSS.out]; rfl), by first | exact DZ.out | (rw [HSS.out]; exact DZ.out), OZ.out⟩
    · have bd := HB.out 1
      have KW := write_any DD.out ((k : Int) + 1) (T.extract 64 128) (by have := HC.out; omega) (by omega)
      have hx := HX.out 1
      have h4 := H4.out 1 EZ.out
      rw [show (T.extract 64 128).data.toList = (T.data.toList.drop (64 * 1)).take 64 from hx, show ((k : Int) + 1) = (k : Int) + ((1 : Nat) : Int) from by omega, ← h4, show (k : Int) + ((1 : Nat) : Int) = (k : Int) + 1 from by omega] at KW
      have KW := Lib.hid KW
      clear hx h4 bd
      have IX := Lib.hid (show (Instr.index 75 (.agg #[.int .i64 (k : Int), .int .i64 ((k : Int) + 1), .int .i64 ((k : Int) + 2), .int .i64 ((k : Int) + 3)]) (.int .i64 1)).run Try.prog wr = .ok (.int .i64 ((k : Int) + 1)) wr from idx4 (k : Int) ((k : Int) + 1) ((k : Int) + 2) ((k : Int) + 3) wr 1 _ rfl)
      go_wp2_with fail
      rw [IX.out]
      go_wp2_with fail
      refine KW.out.mono ?_
      rintro e wz ⟨rfl, dd, oz⟩
      have DZ := Lib.hid dd
      have OZ := Lib.hid (O.out.trans oz)
      clear dd oz KW
      by_cases hz : (w4 d n k T.data.toList 2).2 = 0
      · have HZ := Lib.hid hz
        have hq : ((w4 d n k T.data.toList 2).2 != 0) = false := by rw [hz]; rfl
        clear hz
        go_wp2_with fail
        go_roundw
        case rel => exact ⟨2, by omega, by first | rfl | simp, DZ, HZ, OZ⟩
        case measure => first | decide | simp [intOf]
      · have hs := HS.out 2 4 hz (by omega)
        have HSS := Lib.hid hs
        have hq : ((w4 d n k T.data.toList 2).2 != 0) = true := by rw [bne_iff_ne]; exact hz
        clear hz hs
        go_wp2_with fail
        go_ret
        exact ⟨by first | rfl | (rw [HSS.out]; rfl), by first | exact DZ.out | (rw [HSS.out]; exact DZ.out), OZ.out⟩
    · have bd := HB.out 2
      have KW := write_any DD.out ((k : Int) + 2) (T.extract 128 192) (by have := HC.out; omega) (by omega)
      have hx := HX.out 2
      have h4 := H4.out 2 EZ.out
      rw [show (T.extract 128 192).data.toList = (T.data.toList.drop (64 * 2)).take 64 from hx, show ((k : Int) + 2) = (k : Int) + ((2 : Nat) : Int) from by omega, ← h4, show (k : Int) + ((2 : Nat) : Int) = (k : Int) + 2 from by omega] at KW
      have KW := Lib.hid KW
      clear hx h4 bd
      have IX := Lib.hid (show (Instr.index 75 (.agg #[.int .i64 (k : Int), .int .i64 ((k : Int) + 1), .int .i64 ((k : Int) + 2), .int .i64 ((k : Int) + 3)]) (.int .i64 2)).run Try.prog wr = .ok (.int .i64 ((k : Int) + 2)) wr from idx4 (k : Int) ((k : Int) + 1) ((k : Int) + 2) ((k : Int) + 3) wr 2 _ rfl)
      go_wp2_with fail
      rw [IX.out]
      go_wp2_with fail
      refine KW.out.mono ?_
      rintro e wz ⟨rfl, dd, oz⟩
      have DZ := Lib.hid dd
      have OZ := Lib.hid (O.out.trans oz)
      clear dd oz KW
      by_cases hz : (w4 d n k T.data.toList 3).2 = 0
      · have HZ := Lib.hid hz
        have hq : ((w4 d n k T.data.toList 3).2 != 0) = false := by rw [hz]; rfl
        clear hz
        go_wp2_with fail
        go_roundw
        case rel => exact ⟨3, by omega, by first | rfl | simp, DZ, HZ, OZ⟩
        case measure => first | decide | simp [intOf]
      · have hs := HS.out 3 4 hz (by omega)
        have HSS := Lib.hid hs
        have hq : ((w4 d n k T.data.toList 3).2 != 0) = true := by rw [bne_iff_ne]; exact hz
        clear hz hs
        go_wp2_with fail
        go_ret
        exact ⟨by first | rfl | (rw [HSS.out]; rfl), by first | exact DZ.out | (rw [HSS.out]; exact DZ.out), OZ.out⟩
    · have bd := HB.out 3
      have KW := write_any DD.out ((k : Int) + 3) (T.extract 192 256) (by have := HC.out; omega) (by omega)
      have hx := HX.out 3
      have h4 := H4.out 3 EZ.out
      rw [show (T.extract 192 256).data.toList = (T.data.toList.drop (64 * 3)).take 64 from hx, show ((k : Int) + 3) = (k : Int) + ((3 : Nat) : Int) from by omega, ← h4, show (k : Int) + ((3 : Nat) : Int) = (k : Int) + 3 from by omega] at KW
      have KW := Lib.hid KW
      clear hx h4 bd
      have IX := Lib.hid (show (Instr.index 75 (.agg #[.int .i64 (k : Int), .int .i64 ((k : Int) + 1), .int .i64 ((k : Int) + 2), .int .i64 ((k : Int) + 3)]) (.int .i64 3)).run Try.prog wr = .ok (.int .i64 ((k : Int) + 3)) wr from idx4 (k : Int) ((k : Int) + 1) ((k : Int) + 2) ((k : Int) + 3) wr 3 _ rfl)
      go_wp2_with fail
      rw [IX.out]
      go_wp2_with fail
      refine KW.out.mono ?_
      rintro e wz ⟨rfl, dd, oz⟩
      have DZ := Lib.hid dd
      have OZ := Lib.hid (O.out.trans oz)
      clear dd oz KW
      by_cases hz : (w4 d n k T.data.toList 4).2 = 0
      · have HZ := Lib.hid hz
        have hq : ((w4 d n k T.data.toList 4).2 != 0) = false := by rw [hz]; rfl
        clear hz
        go_wp2_with fail
        go_roundw
        case rel => exact ⟨4, by omega, by first | rfl | simp, DZ, HZ, OZ⟩
        case measure => first | decide | simp [intOf]
      · have hs := HS.out 4 4 hz (by omega)
        have HSS := Lib.hid hs
        have hq : ((w4 d n k T.data.toList 4).2 != 0) = true := by rw [bne_iff_ne]; exact hz
        clear hz hs
        go_wp2_with fail
        go_ret
        exact ⟨by first | rfl | (rw [HSS.out]; rfl), by first | exact DZ.out | (rw [HSS.out]; exact DZ.out), OZ.out⟩
    · go_wp2_with fail
      go_ret
      exact ⟨by rw [EZ.out]; rfl, DD.out, O.out⟩
theorem pwrite_any {w : World} {L : Dk.Loc} {n : Nat} {d : D} (h : DiskAt w L n d) (id ep kd : Int) (s : ByteArray) (hid : id ≤ 9223372036854775807) (hc : d.calls ≤ 999999990) (hr : d.armed ≤ 9223372036854775807) :
    Calls Try.prog 16 #[dp L.b, pageV id ep kd s] w fun e w' => e = .returned (.int .i64 (pwriteF d n id ep kd s.data.toList).2) ∧ DiskAt w' L n (pwriteF d n id ep kd s.data.toList).1 ∧ Only L.fp w w' := by
  by_cases hp : (putF id ep kd s.data.toList).2 = 0
  · by_cases hm : (manyF n : Int) ≤ id
    · exact (pwrite_no h id ep kd s hid (.inr hm)).mono fun e w' hx => ⟨hx.1, hx.2.1, .of_below hx.2.2⟩
    · have hok := (okP_iff id ep kd).1 (putF_len hp).2
      obtain ⟨a, rfl⟩ := Int.eq_ofNat_of_zero_le hok.1
      have e1 : pwriteF d n a ep kd s.data.toList = w4 d n (2 + 4 * a) (putF a ep kd s.data.toList).1 4 := by
        unfold pwriteF
        rw [if_neg (by simpa using hp), if_neg hm]; rfl
      rw [e1]
      exact pwrite_yes h a ep kd s hp (by omega) hc hr
  · exact (pwrite_no h id ep kd s hid (.inl hp)).mono fun e w' hx => ⟨hx.1, hx.2.1, .of_below hx.2.2⟩
end Go.Proofs.Ytmofbgcanehdoaa.Pg
