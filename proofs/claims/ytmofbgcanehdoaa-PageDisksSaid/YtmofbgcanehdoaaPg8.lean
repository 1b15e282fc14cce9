/- pages: the document's page, read whole. -/
import Derived.Test.YtmofbgcanehdoaaPg7
namespace Go.Proofs.Ytmofbgcanehdoaa.Pg
open Go.RowKit Pk
attribute [local go_sem ↓] Go.wp_at_zero Go.wp_at_succ
set_option maxRecDepth 100000 in
set_option maxHeartbeats 4000000 in
theorem rget_sound {w : World} (s : ByteArray) (h : s.size = 256) (hc : Crc.fourL (Crc.sumF (s.data.toList.drop 4)) = s.data.toList.take 4) (b : Bool) (hb : okP (decG s.data.toList).id (decG s.data.toList).ep (decG s.data.toList).kd = b) :
    Calls Try.prog 13 #[.string s] w fun e w' => e = .returned (.tuple #[if b then (decG s.data.toList).val else PG.zero.val, .int .i64 (if b then 0 else 14)]) ∧ Below w.heap.size w w' := by
  have B0 := Lib.hid (Blk.new w 23 zeroC)
  have O0 := Lib.hid (belowAlloc (Below.refl w.heap.size w) (.cells zeroC 23))
  have hI : ((s.size : Int) != 256) = false := by rw [bne_eq_false_iff_eq]; omega
  have hll : s.data.toList.length = 256 := by simpa using h
  have K := Crc.rlay_any (s.extract 4 256) (hs := by rw [ByteArray.size_extract]; omega)
  have hx : (s.extract 4 256).data.toList = s.data.toList.drop 4 := by rw [exl]; exact List.take_of_length_le (by simp; omega)
  rw [hx, (lay_sum _ (by omega)).2 hc, ← ba_list (a := s) rfl] at K
  have K := Lib.hid K
  have KI := Lib.hid (rreadI_any s 4 (h1 := by omega) (hs := by omega))
  have KJ := Lib.hid (rreadI_any s 12 (h1 := by omega) (hs := by omega))
  obtain ⟨P, hP⟩ : ∃ P, s.extract 24 256 = P := ⟨_, rfl⟩
  have hPl : P.data.toList = s.data.toList.drop 24 := by
    rw [← hP, exl]; exact List.take_of_length_le (by simp; omega)
  have x0 : 20 < s.size := by omega
  have x1 : 21 < s.size := by omega
  have x2 : 22 < s.size := by omega
  have x3 : 23 < s.size := by omega
  have y0 := s[20].toNat_lt
  have y1 := s[21].toNat_lt
  have y2 := s[22].toNat_lt
  have y3 := s[23].toNat_lt
  obtain ⟨N, hN⟩ : ∃ N, beN ((s.data.toList.drop 20).take 4) = N := ⟨_, rfl⟩
  have hNe : ((s[20].toNat : Int) * 16777216 + (s[21].toNat : Int) * 65536 + (s[22].toNat : Int) * 256 + (s[23].toNat : Int)) = (N : Int) := by
    have : (s.data.toList.drop 20).take 4 = [s[20], s[21], s[22], s[23]] := by
      apply List.ext_getElem (by simp; omega)
      intro i h1 h2
      simp only [List.length_cons, List.length_nil] at h2
      rcases (show i = 0 ∨ i = 1 ∨ i = 2 ∨ i = 3 by omega) with rfl | rfl | rfl | rfl <;> · rw [List.getElem_take, List.getElem_drop]; rfl
    rw [this] at hN
    simp only [beN, List.foldl_cons, List.foldl_nil] at hN
    omega
  have hNlt : N < 4294967296 := by omega
  have e1 : ((beN ((s.data.toList.drop 4).take 8) : Nat) : Int) - 9223372036854775808 = (decG s.data.toList).id := rfl
  have e2 : ((beN ((s.data.toList.drop 12).take 8) : Nat) : Int) - 9223372036854775808 = (decG s.data.toList).ep := rfl
  rw [e1] at KI
  rw [e2] at KJ
  have hkd : (decG s.data.toList).kd = (N : Int) := by rw [← hN]; rfl
  have HV := Lib.hid (show (decG s.data.toList).val = pageV (decG s.data.toList).id (decG s.data.toList).ep N P from by
    have : P = ⟨(decG s.data.toList).s.toArray⟩ := ba_list hPl
    rw [this, ← hkd]; rfl)
  rw [hkd] at hb
  generalize (decG s.data.toList).id = id at *
  generalize (decG s.data.toList).ep = ep at *
  generalize (decG s.data.toList).val = V at *
  have m0 : IntKind.i64.wrap (s[20].toNat : Int) = (s[20].toNat : Int) := IntWalk.i64_in _ (by omega)
  have m1 : IntKind.i64.wrap (s[21].toNat : Int) = (s[21].toNat : Int) := IntWalk.i64_in _ (by omega)
  have m2 : IntKind.i64.wrap (s[22].toNat : Int) = (s[22].toNat : Int) := IntWalk.i64_in _ (by omega)
  have m3 : IntKind.i64.wrap (s[23].toNat : Int) = (s[23].toNat : Int) := IntWalk.i64_in _ (by omega)
  have t0 : IntKind.i64.wrap ((s[20].toNat : Int) * 16777216) = (s[20].toNat : Int) * 16777216 := IntWalk.i64_in _ (by omega)
  have t1 : IntKind.i64.wrap ((s[21].toNat : Int) * 65536) = (s[21].toNat : Int) * 65536 := IntWalk.i64_in _ (by omega)
  have t2 : IntKind.i64.wrap ((s[22].toNat : Int) * 256) = (s[22].toNat : Int) * 256 := IntWalk.i64_in _ (by omega)
  have t3 : IntKind.i64.wrap ((s[20].toNat : Int) * 16777216 + (s[21].toNat : Int) * 65536) = (s[20].toNat : Int) * 16777216 + (s[21].toNat : Int) * 65536 := IntWalk.i64_in _ (by omega)
  have t4 : IntKind.i64.wrap ((s[20].toNat : Int) * 16777216 + (s[21].toNat : Int) * 65536 + (s[22].toNat : Int) * 256) = (s[20].toNat : Int) * 16777216 + (s[21].toNat : Int) * 65536 + (s[22].toNat : Int) * 256 := IntWalk.i64_in _ (by omega)
  have t5 : IntKind.i64.wrap ((s[20].toNat : Int) * 16777216 + (s[21].toNat : Int) * 65536 + (s[22].toNat : Int) * 256 + (s[23].toNat : Int)) = (N : Int) := by rw [hNe]; exact IntWalk.i64_in _ (by omega)
  have u0 : (20 : Int) < (s.size : Int) := by omega
  have u1 : (21 : Int) < (s.size : Int) := by omega
  have u2 : (22 : Int) < (s.size : Int) := by omega
  have u3 : (23 : Int) < (s.size : Int) := by omega
  have KR := Lib.hid (fun w => rright_any (w := w) id ep N P b hb)
  unfold pageV at KR
  have HNE := Lib.hid (show (s[20].toNat : Int) * (16777216 : Int) + (s[21].toNat : Int) * (65536 : Int) + (s[22].toNat : Int) * (256 : Int) + (s[23].toNat : Int) = (N : Int) from hNe)
  clear hc hb e1 e2 hkd hN hPl hNe hx
  go_enter Try.func13, Try.ntmps13
  go_wp2_with fail
  refine (K.out _).mono ?_
  rintro e w1 ⟨rfl, hb1⟩
  have O1 := Lib.hid (bstep O0.out hb1)
  have B1 := Lib.hid (B0.out.below hb1 B0.out.lt)
  clear hb1 O0 B0
  go_wp2_with fail
  refine (KI.out _).mono ?_
  rintro e w2 ⟨rfl, hb2⟩
  have O2 := Lib.hid (bstep O1.out hb2)
  have B2 := Lib.hid (B1.out.below hb2 B1.out.lt)
  clear hb2 O1 B1
  go_wp2_with fail
  refine (KJ.out _).mono ?_
  rintro e w3 ⟨rfl, hb3⟩
  have O3 := Lib.hid (bstep O2.out hb3)
  have B3 := Lib.hid (B2.out.below hb3 B2.out.lt)
  clear hb3 O2 B2
  go_wp2_with fail
  go_quiet (fail)
  rw [HNE.out]
  have O3 := Lib.hid (Below_drewN O3.out nq)
  have B3 := Lib.hid (B3.out.drewN nq)
  generalize hw4 : w3.drewN nq = w4 at *
  clear hw4
  have O4 := Lib.hid (belowAlloc O3.out (.cells #[.int .i64 id, .int .i64 ep, .int .i64 (N : Int), .string P] 23))
  have B4 := Lib.hid (B3.out.alloc (.cells #[.int .i64 id, .int .i64 ep, .int .i64 (N : Int), .string P] 23))
  have P4 := Lib.hid (Blk.new w4 23 #[.int .i64 id, .int .i64 ep, .int .i64 (N : Int), .string P])
  go_wp2_with fail
  generalize hw5 : w4.alloc (.cells #[.int .i64 id, .int .i64 ep, .int .i64 (N : Int), .string P] 23) = w5 at *
  clear hw5
  refine (KR.out _).mono ?_
  rintro e w6 ⟨rfl, hb6⟩
  have O6 := Lib.hid (bstep O4.out hb6)
  have B6 := Lib.hid (B4.out.below hb6 B4.out.lt)
  have P6 := Lib.hid (P4.out.below hb6 P4.out.lt)
  have z0 := B6.out.frozen 0 (by simp)
  have z1 := B6.out.frozen 1 (by simp)
  have z2 := B6.out.frozen 2 (by simp)
  have z3 := B6.out.frozen 3 (by simp)
  have c0 := B6.out.cell_some (i := 0) rfl
  have c1 := B6.out.cell_some (i := 1) rfl
  have c2 := B6.out.cell_some (i := 2) rfl
  have c3 := B6.out.cell_some (i := 3) rfl
  have p0 := P6.out.cell_some (i := 0) rfl
  have p1 := P6.out.cell_some (i := 1) rfl
  have p2 := P6.out.cell_some (i := 2) rfl
  have p3 := P6.out.cell_some (i := 3) rfl
  clear hb6 O4 B4 P4
  cases b
  · have ZB := Lib.hid (storeP B6.out rfl 0 0 0 ⟨#[]⟩)
    have ZO := Lib.hid (storeP_below O6.out (Nat.le_refl _) 0 0 0 ⟨#[]⟩)
    go_wp2_with fail
    exact bodyPost_ret (results_cell_p rfl rfl ZB.out) rfl ⟨rfl, ZO.out⟩
  · have ZB := Lib.hid (storeP B6.out rfl id ep N P)
    have ZO := Lib.hid (storeP_below O6.out (Nat.le_refl _) id ep N P)
    go_wp2_with fail
    exact bodyPost_ret (results_cell_p rfl rfl ZB.out) rfl ⟨by rw [HV.out]; rfl, ZO.out⟩
theorem pget_any {w : World} (s : ByteArray) :
    Calls Try.prog 12 #[.string s] w fun e w' => e = .returned (.tuple #[(gotF s.data.toList).1.val, .int .i64 (gotF s.data.toList).2]) ∧ Below w.heap.size w w' := by
  have hl : s.data.toList.length = s.size := by simp
  unfold gotF
  rw [hl]
  by_cases h : s.size = 256
  · rw [if_neg (by omega)]
    by_cases hc : Crc.fourL (Crc.sumF (s.data.toList.drop 4)) = s.data.toList.take 4
    · rw [if_neg (by simpa using hc)]
      by_cases hb : okP (decG s.data.toList).id (decG s.data.toList).ep (decG s.data.toList).kd = true
      · rw [if_pos hb]; simpa using pget_sound (w := w) s h hc true hb
      · rw [if_neg hb]; simpa using pget_sound (w := w) s h hc false (by simpa using hb)
    · rw [if_pos hc]; exact pget_corrupt s h hc
  · rw [if_pos h]; exact pget_len s h
theorem rget_any {w : World} (s : ByteArray) :
    Calls Try.prog 13 #[.string s] w fun e w' => e = .returned (.tuple #[(gotF s.data.toList).1.val, .int .i64 (gotF s.data.toList).2]) ∧ Below w.heap.size w w' := by
  have hl : s.data.toList.length = s.size := by simp
  unfold gotF
  rw [hl]
  by_cases h : s.size = 256
  · rw [if_neg (by omega)]
    by_cases hc : Crc.fourL (Crc.sumF (s.data.toList.drop 4)) = s.data.toList.take 4
    · rw [if_neg (by simpa using hc)]
      by_cases hb : okP (decG s.data.toList).id (decG s.data.toList).ep (decG s.data.toList).kd = true
      · rw [if_pos hb]; simpa using rget_sound (w := w) s h hc true hb
      · rw [if_neg hb]; simpa using rget_sound (w := w) s h hc false (by simpa using hb)
    · rw [if_pos hc]; exact rget_corrupt s h hc
  · rw [if_pos h]; exact rget_len s h
end Go.Proofs.Ytmofbgcanehdoaa.Pg
