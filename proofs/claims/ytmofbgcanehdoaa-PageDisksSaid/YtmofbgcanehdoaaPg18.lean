/- pages: there and back. -/
import Derived.Test.YtmofbgcanehdoaaPg17
import Derived.Deep.RegionHeld3
namespace Go.Proofs.Ytmofbgcanehdoaa.Pg
open Go.RowKit Pk Dk
attribute [local go_sem ↓] Go.wp_at_zero Go.wp_at_succ
set_option maxRecDepth 100000 in
set_option maxHeartbeats 4000000 in
theorem back_idle {w : World} (id ep kd : Int) (s q : ByteArray) (hs : s.size ≤ maxLen) (hq : q.size ≤ maxLen) (h : 600 < s.size ∨ 600 < q.size) :
    Calls Try.prog 5 #[pageV id ep kd s, .string q] w fun e w' => e = .returned (.bool true) ∧ Below w.heap.size w w' := by
  have B0 := Lib.hid (Blk.new w 23 #[.int .i64 id, .int .i64 ep, .int .i64 kd, .string s])
  have O0 := Lib.hid (belowAlloc (Below.refl w.heap.size w) (.cells #[.int .i64 id, .int .i64 ep, .int .i64 kd, .string s] 23))
  have KA := Lib.hid awake11_any
  have c3 := B0.out.cell_some (i := 3) rfl
  unfold maxLen at hs hq
  unfold pageV
  by_cases h1 : 600 < s.size
  · have hI : (600 : Int) < (s.size : Int) := by omega
    go_enter Try.func5, Try.ntmps5
    go_wp2_with fail
    refine (KA.out _).mono ?_
    rintro e w1 ⟨rfl, hb1⟩
    have O1 := Lib.hid (bstep O0.out hb1)
    clear hb1
    go_wp2_with fail
    go_ret
    exact ⟨by first | rfl | simp, O1.out⟩
  · have hI : ¬ (600 : Int) < (s.size : Int) := by omega
    have hJ : (600 : Int) < (q.size : Int) := by omega
    go_enter Try.func5, Try.ntmps5
    go_wp2_with fail
    refine (KA.out _).mono ?_
    rintro e w1 ⟨rfl, hb1⟩
    have O1 := Lib.hid (bstep O0.out hb1)
    clear hb1
    go_wp2_with fail
    go_ret
    exact ⟨by first | rfl | simp, O1.out⟩
set_option maxRecDepth 100000 in
set_option maxHeartbeats 4000000 in
theorem back_no {w : World} (id ep kd : Int) (s q : ByteArray) (hid : id ≤ 9223372036854775807) (hs : ¬ 600 < s.size) (hq : ¬ 600 < q.size) (hp : (putF id ep kd s.data.toList).2 ≠ 0) :
    Calls Try.prog 5 #[pageV id ep kd s, .string q] w fun e w' => e = .returned (.bool true) ∧ Below w.heap.size w w' := by
  have B0 := Lib.hid (Blk.new w 23 #[.int .i64 id, .int .i64 ep, .int .i64 kd, .string s])
  have O0 := Lib.hid (belowAlloc (Below.refl w.heap.size w) (.cells #[.int .i64 id, .int .i64 ep, .int .i64 kd, .string s] 23))
  have KA := Lib.hid awake11_any
  have KG := Lib.hid (fun (w : World) => pget_any (w := w) q)
  have KP := fun w => pput_any (w := w) id ep kd s hid
  obtain ⟨R, hR⟩ : ∃ R : ByteArray, (⟨(putF id ep kd s.data.toList).1.toArray⟩ : ByteArray) = R := ⟨_, rfl⟩
  rw [hR] at KP
  have hpq : ((putF id ep kd s.data.toList).2 == 0) = false := by rw [beq_eq_false_iff_ne]; exact hp
  generalize (putF id ep kd s.data.toList).2 = e0 at *
  have KP := Lib.hid KP
  have c0 := B0.out.cell_some (i := 0) rfl
  have c1 := B0.out.cell_some (i := 1) rfl
  have c2 := B0.out.cell_some (i := 2) rfl
  have c3 := B0.out.cell_some (i := 3) rfl
  have hI : ¬ (600 : Int) < (s.size : Int) := by omega
  have hJ : ¬ (600 : Int) < (q.size : Int) := by omega
  clear hR hp hs hq
  unfold pageV at *
  go_enter Try.func5, Try.ntmps5
  go_wp2_with fail
  refine (KP.out _).mono ?_
  rintro e wa ⟨rfl, hb1⟩
  have OA := Lib.hid (bstep O0.out hb1)
  clear hb1 c0 c1 c2 c3
  go_wp2_with fail
  refine (KG.out _).mono ?_
  rintro e wb ⟨rfl, hbb⟩
  by_cases hz : (gotF q.data.toList).2 = 0
  · obtain ⟨hput, hPid⟩ := putF_got hz
    rw [hz]
    generalize (gotF q.data.toList).1 = PP at *
    obtain ⟨pid, pep, pkd, ps⟩ := PP
    have KP2 := fun w => pput_any (w := w) pid pep pkd ⟨ps.toArray⟩ hPid
    have hput : putF pid pep pkd (⟨ps.toArray⟩ : ByteArray).data.toList = (q.data.toList, 0) := hput
    rw [hput, ← ba_list (a := q) rfl] at KP2
    have KP2 := Lib.hid KP2
    have OB := Lib.hid (belowAlloc (bstep OA.out hbb) (.cells #[.int .i64 pid, .int .i64 pep, .int .i64 pkd, .string ⟨ps.toArray⟩] 23))
    have QB := Lib.hid (Blk.new wb 23 #[.int .i64 pid, .int .i64 pep, .int .i64 pkd, .string ⟨ps.toArray⟩])
    unfold PG.val pageV at *
    dsimp only at *
    clear hbb hput
    have q0 := QB.out.cell_some (i := 0) rfl
    have q1 := QB.out.cell_some (i := 1) rfl
    have q2 := QB.out.cell_some (i := 2) rfl
    have q3 := QB.out.cell_some (i := 3) rfl
    go_wp2_with fail
    generalize hwc : wb.alloc (.cells #[.int .i64 pid, .int .i64 pep, .int .i64 pkd, .string ⟨ps.toArray⟩] 23) = wc at *
    clear hwc
    refine (KP2.out _).mono ?_
    rintro e wd ⟨rfl, hbd⟩
    have OD := Lib.hid (bstep OB.out hbd)
    clear hbd q0 q1 q2 q3
    go_wp2_with fail
    refine (KA.out _).mono ?_
    rintro e we ⟨rfl, hbe⟩
    have OE := Lib.hid (bstep OD.out hbe)
    clear hbe
    go_wp2_with fail
    go_ret
    exact ⟨by first | rfl | simp, OE.out⟩
  · have h0 := gotF_zero hz
    have hq : ((gotF q.data.toList).2 != 0) = true := by rw [bne_iff_ne]; exact hz
    rw [h0]
    generalize (gotF q.data.toList).2 = er at *
    have OB := Lib.hid (belowAlloc (bstep OA.out hbb) (.cells #[.int .i64 0, .int .i64 0, .int .i64 0, .string ⟨#[]⟩] 23))
    have QB := Lib.hid (Blk.new wb 23 #[.int .i64 0, .int .i64 0, .int .i64 0, .string ⟨#[]⟩])
    unfold PG.val PG.zero pageV at *
    dsimp only at *
    clear hbb h0 hz
    go_wp2_with fail
    generalize hwc : wb.alloc (.cells #[.int .i64 0, .int .i64 0, .int .i64 0, .string ⟨#[]⟩] 23) = wc at *
    clear hwc
    refine (KA.out _).mono ?_
    rintro e we ⟨rfl, hbe⟩
    have OE := Lib.hid (bstep OB.out hbe)
    have QE := QB.out.below hbe QB.out.lt
    clear hbe
    have q0 := QE.cell_some (i := 0) rfl
    have q1 := QE.cell_some (i := 1) rfl
    have q2 := QE.cell_some (i := 2) rfl
    have q3 := QE.cell_some (i := 3) rfl
    clear QE
    go_wp2_with fail
    go_ret
    exact ⟨by first | rfl | simp, OE.out⟩
set_option maxRecDepth 100000 in
set_option maxHeartbeats 4000000 in
theorem back_yes {w : World} (id ep kd : Int) (s q : ByteArray) (hid : id ≤ 9223372036854775807) (hs : ¬ 600 < s.size) (hq : ¬ 600 < q.size) (hp : (putF id ep kd s.data.toList).2 = 0) :
    Calls Try.prog 5 #[pageV id ep kd s, .string q] w fun e w' => e = .returned (.bool true) ∧ Below w.heap.size w w' := by
  have B0 := Lib.hid (Blk.new w 23 #[.int .i64 id, .int .i64 ep, .int .i64 kd, .string s])
  have O0 := Lib.hid (belowAlloc (Below.refl w.heap.size w) (.cells #[.int .i64 id, .int .i64 ep, .int .i64 kd, .string s] 23))
  have KA := Lib.hid awake11_any
  have KG := Lib.hid (fun (w : World) => pget_any (w := w) q)
  have KP := fun w => pput_any (w := w) id ep kd s hid
  have hok := (putF_len hp).2
  have hs2 : s.data.toList.length ≤ 232 := by
    unfold putF at hp
    rw [if_pos hok] at hp
    split at hp
    · simp at hp
    · omega
  have hpl : putF id ep kd s.data.toList = (pageL id ep kd s.data.toList, 0) := by unfold putF; rw [if_pos hok, if_neg (by omega)]
  rw [hpl] at KP
  obtain ⟨R, hR⟩ : ∃ R : ByteArray, (⟨(pageL id ep kd s.data.toList).toArray⟩ : ByteArray) = R := ⟨_, rfl⟩
  have KP : ∀ w, Calls Try.prog 9 #[pageV id ep kd s] w fun e w' => e = .returned (.tuple #[.string R, .int .i64 0]) ∧ Below w.heap.size w w' := by rw [← hR]; exact KP
  have KR := fun (w : World) => pget_any (w := w) R
  have hRl : R.data.toList = pageL id ep kd s.data.toList := by rw [← hR]
  rw [hRl, gotF_page hok hid hs2] at KR
  have KF := fun w => rfull_any s (by omega) w
  obtain ⟨F, hF⟩ : ∃ F : ByteArray, (⟨(padL s.data.toList 232).toArray⟩ : ByteArray) = F := ⟨_, rfl⟩
  rw [hF] at KF
  unfold PG.val at KR
  dsimp only at KR
  rw [hF] at KR
  have KP := Lib.hid KP
  have KR := Lib.hid KR
  have KF := Lib.hid KF
  have c0 := B0.out.cell_some (i := 0) rfl
  have c1 := B0.out.cell_some (i := 1) rfl
  have c2 := B0.out.cell_some (i := 2) rfl
  have c3 := B0.out.cell_some (i := 3) rfl
  have hI : ¬ (600 : Int) < (s.size : Int) := by omega
  have hJ : ¬ (600 : Int) < (q.size : Int) := by omega
  have e0 : (id != id) = false := by simp
  have e1 : (ep != ep) = false := by simp
  have e2 : (kd != kd) = false := by simp
  clear hR hp hs hq hpl hok hs2 hRl hF
  unfold pageV at *
  go_enter Try.func5, Try.ntmps5
  go_wp2_with fail
  refine (KP.out _).mono ?_
  rintro e w1 ⟨rfl, hb1⟩
  have O1 := Lib.hid (bstep O0.out hb1)
  have B1 := Lib.hid (B0.out.below hb1 B0.out.lt)
  clear hb1 c0 c1 c2 c3 B0 O0
  go_wp2_with fail
  refine (KR.out _).mono ?_
  rintro e w2 ⟨rfl, hb2⟩
  have O2 := Lib.hid (belowAlloc (bstep O1.out hb2) (.cells #[.int .i64 id, .int .i64 ep, .int .i64 kd, .string F] 23))
  have B2 := Lib.hid ((B1.out.below hb2 B1.out.lt).alloc (.cells #[.int .i64 id, .int .i64 ep, .int .i64 kd, .string F] 23))
  have P2 := Lib.hid (Blk.new w2 23 #[.int .i64 id, .int .i64 ep, .int .i64 kd, .string F])
  clear hb2 B1 O1
  go_wp2_with fail
  generalize hw7 : w2.alloc (.cells #[.int .i64 id, .int .i64 ep, .int .i64 kd, .string F] 23) = w7 at *
  clear hw7
  have HK := Lib.hid (show ∀ W', Below w7.heap.size w7 W' → (W'.cell? ⟨w.heap.size, 0, none⟩ = some (.int .i64 id) ∧ W'.cell? ⟨w.heap.size, 1, none⟩ = some (.int .i64 ep) ∧ W'.cell? ⟨w.heap.size, 2, none⟩ = some (.int .i64 kd) ∧ W'.cell? ⟨w.heap.size, 3, none⟩ = some (.string s) ∧ W'.cell? ⟨w2.heap.size, 0, none⟩ = some (.int .i64 id) ∧ W'.cell? ⟨w2.heap.size, 1, none⟩ = some (.int .i64 ep) ∧ W'.cell? ⟨w2.heap.size, 2, none⟩ = some (.int .i64 kd) ∧ W'.cell? ⟨w2.heap.size, 3, none⟩ = some (.string F)) from fun W' hb => by
    have B := B2.out.below hb B2.out.lt
    have Q := P2.out.below hb P2.out.lt
    exact ⟨B.cell_some (i := 0) rfl, B.cell_some (i := 1) rfl, B.cell_some (i := 2) rfl, B.cell_some (i := 3) rfl, Q.cell_some (i := 0) rfl, Q.cell_some (i := 1) rfl, Q.cell_some (i := 2) rfl, Q.cell_some (i := 3) rfl⟩)
  have OD := Lib.hid (show Below w7.heap.size w7 w7.drew from (Below.refl _ _).drew)
  refine wp_region_held_drew (S := fun W' => W'.cell? ⟨w.heap.size, 0, none⟩ = some (.int .i64 id) ∧ W'.cell? ⟨w.heap.size, 1, none⟩ = some (.int .i64 ep) ∧ W'.cell? ⟨w.heap.size, 2, none⟩ = some (.int .i64 kd) ∧ W'.cell? ⟨w.heap.size, 3, none⟩ = some (.string s) ∧ W'.cell? ⟨w2.heap.size, 0, none⟩ = some (.int .i64 id) ∧ W'.cell? ⟨w2.heap.size, 1, none⟩ = some (.int .i64 ep) ∧ W'.cell? ⟨w2.heap.size, 2, none⟩ = some (.int .i64 kd) ∧ W'.cell? ⟨w2.heap.size, 3, none⟩ = some (.string F)) (by kernel_rfl) (HK.out _ OD.out) (fun hHeld => ?_)
  refine wpAnyH_take (i := 0) (oi := ⟨some 35, _, _, _, _, _⟩) (v := ?_) rfl (by kernel_rfl) (by kernel_rfl) (by kernel_rfl) (fun _ _ _ h => h) (Or.inl ⟨by kernel_rfl, ?_⟩) (by assumption) ?_
  rotate_left
  · (intro w hSw; (try dsimp only at hSw); go_simp; (try (with_reducible rfl)))
  try simp only [Act.put, List.setIfInBounds_toArray, List.set_cons_zero, List.set_cons_succ]
  refine wpAnyH_take (i := 1) (oi := ⟨some 36, _, _, _, _, _⟩) (v := ?_) rfl (by kernel_rfl) (by kernel_rfl) (by kernel_rfl) (fun _ _ _ h => h) (Or.inl ⟨by kernel_rfl, ?_⟩) (by assumption) ?_
  rotate_left
  · (intro w hSw; (try dsimp only at hSw); go_simp; (try (with_reducible rfl)))
  try simp only [Act.put, List.setIfInBounds_toArray, List.set_cons_zero, List.set_cons_succ]
  refine wpAnyH_take (i := 2) (oi := ⟨some 37, _, _, _, _, _⟩) (v := ?_) rfl (by kernel_rfl) (by kernel_rfl) (by kernel_rfl) (fun _ _ _ h => h) (Or.inl ⟨by kernel_rfl, ?_⟩) (by assumption) ?_
  rotate_left
  · (intro w hSw; (try dsimp only at hSw); go_simp; (try (with_reducible rfl)))
  try simp only [Act.put, List.setIfInBounds_toArray, List.set_cons_zero, List.set_cons_succ]
  refine wpAnyH_take (i := 3) (oi := ⟨some 38, _, _, _, _, _⟩) (v := ?_) rfl (by kernel_rfl) (by kernel_rfl) (by kernel_rfl) (fun _ _ _ h => h) (Or.inl ⟨by kernel_rfl, ?_⟩) (by assumption) ?_
  rotate_left
  · (intro w hSw; (try dsimp only at hSw); go_simp; (try (with_reducible rfl)))
  try simp only [Act.put, List.setIfInBounds_toArray, List.set_cons_zero, List.set_cons_succ]
  refine wpAnyH_take (i := 4) (oi := ⟨some 39, _, _, _, _, _⟩) (v := ?_) rfl (by kernel_rfl) (by kernel_rfl) (by kernel_rfl) (fun _ _ _ h => h) (Or.inl ⟨by kernel_rfl, ?_⟩) (by assumption) ?_
  rotate_left
  · (intro w hSw; (try dsimp only at hSw); go_simp; (try (with_reducible rfl)))
  try simp only [Act.put, List.setIfInBounds_toArray, List.set_cons_zero, List.set_cons_succ]
  refine wpAnyH_take (i := 5) (oi := ⟨some 40, _, _, _, _, _⟩) (v := ?_) rfl (by kernel_rfl) (by kernel_rfl) (by kernel_rfl) (fun _ _ _ h => h) (Or.inl ⟨by kernel_rfl, ?_⟩) (by assumption) ?_
  rotate_left
  · (intro w hSw; (try dsimp only at hSw); go_simp; (try (with_reducible rfl)))
  try simp only [Act.put, List.setIfInBounds_toArray, List.set_cons_zero, List.set_cons_succ]
  refine wpAnyH_take (i := 6) (oi := ⟨some 41, _, _, _, _, _⟩) (v := ?_) rfl (by kernel_rfl) (by kernel_rfl) (by kernel_rfl) (fun _ _ _ h => h) (Or.inl ⟨by kernel_rfl, ?_⟩) (by assumption) ?_
  rotate_left
  · (intro w hSw; (try dsimp only at hSw); go_simp; (try (with_reducible rfl)))
  try simp only [Act.put, List.setIfInBounds_toArray, List.set_cons_zero, List.set_cons_succ]
  refine wpAnyH_take (i := 7) (oi := ⟨some 42, _, _, _, _, _⟩) (v := ?_) rfl (by kernel_rfl) (by kernel_rfl) (by kernel_rfl) (fun _ _ _ h => h) (Or.inl ⟨by kernel_rfl, ?_⟩) (by assumption) ?_
  rotate_left
  · (intro w hSw; (try dsimp only at hSw); go_simp; (try (with_reducible rfl)))
  try simp only [Act.put, List.setIfInBounds_toArray, List.set_cons_zero, List.set_cons_succ]
  refine wpAnyH_take (i := 8) (oi := ⟨some 43, _, _, _, _, _⟩) (v := ?_) rfl (by kernel_rfl) (by kernel_rfl) (by kernel_rfl) (fun _ _ _ h => h) (Or.inl ⟨by kernel_rfl, ?_⟩) (by assumption) ?_
  rotate_left
  · (intro w hSw; (try dsimp only at hSw); go_simp; (try (with_reducible rfl)))
  try simp only [Act.put, List.setIfInBounds_toArray, List.set_cons_zero, List.set_cons_succ]
  refine wpAnyH_take (i := 9) (oi := ⟨some 44, _, _, _, _, _⟩) (v := ?_) rfl (by kernel_rfl) (by kernel_rfl) (by kernel_rfl) (fun _ _ _ h => h) (Or.inl ⟨by kernel_rfl, ?_⟩) (by assumption) ?_
  rotate_left
  · (intro w hSw; (try dsimp only at hSw); go_simp; (try (with_reducible rfl)))
  try simp only [Act.put, List.setIfInBounds_toArray, List.set_cons_zero, List.set_cons_succ]
  refine wpAnyH_take (i := 10) (oi := ⟨some 45, _, _, _, _, _⟩) (v := ?_) rfl (by kernel_rfl) (by kernel_rfl) (by kernel_rfl) (fun _ _ _ h => h) (Or.inl ⟨by kernel_rfl, ?_⟩) (by assumption) ?_
  rotate_left
  · (intro w hSw; (try dsimp only at hSw); go_simp; (try (with_reducible rfl)))
  try simp only [Act.put, List.setIfInBounds_toArray, List.set_cons_zero, List.set_cons_succ]
  refine wpAnyH_take (i := 11) (oi := ⟨some 46, _, _, _, _, _⟩) (v := ?_) rfl (by kernel_rfl) (by kernel_rfl) (by kernel_rfl) (fun _ _ _ h => h) (Or.inl ⟨by kernel_rfl, ?_⟩) (by assumption) ?_
  rotate_left
  · (intro w hSw; (try dsimp only at hSw); go_simp; (try (with_reducible rfl)))
  try simp only [Act.put, List.setIfInBounds_toArray, List.set_cons_zero, List.set_cons_succ]
  refine wpAnyH_take (i := 12) (oi := ⟨some 47, _, _, _, _, _⟩) (v := ?_) rfl (by kernel_rfl) (by kernel_rfl) (by kernel_rfl) (fun _ _ _ h => h) (Or.inl ⟨by kernel_rfl, ?_⟩) (by assumption) ?_
  rotate_left
  · (intro w hSw; (try dsimp only at hSw); go_simp; (try (with_reducible rfl)))
  try simp only [Act.put, List.setIfInBounds_toArray, List.set_cons_zero, List.set_cons_succ]
  refine wpAnyH_take (i := 13) (oi := ⟨some 48, _, _, _, _, _⟩) (v := ?_) rfl (by kernel_rfl) (by kernel_rfl) (by kernel_rfl) (fun _ _ _ h => h) (Or.inl ⟨by kernel_rfl, ?_⟩) (by assumption) ?_
  rotate_left
  · (intro w hSw; (try dsimp only at hSw); go_simp; (try (with_reducible rfl)))
  try simp only [Act.put, List.setIfInBounds_toArray, List.set_cons_zero, List.set_cons_succ]
  refine wpAnyH_take (i := 14) (oi := ⟨some 49, _, _, _, _, _⟩) (v := ?_) rfl (by kernel_rfl) (by kernel_rfl) (by kernel_rfl) (fun _ _ _ h => h) (Or.inl ⟨by kernel_rfl, ?_⟩) (by assumption) ?_
  rotate_left
  · (intro w hSw; (try dsimp only at hSw); go_simp; (try (with_reducible rfl)))
  try simp only [Act.put, List.setIfInBounds_toArray, List.set_cons_zero, List.set_cons_succ]
  refine wpAnyH_take (i := 15) (oi := ⟨some 50, _, _, _, _, _⟩) (v := ?_) rfl (by kernel_rfl) (by kernel_rfl) (by kernel_rfl) (fun _ _ _ h => h) (Or.inl ⟨by kernel_rfl, ?_⟩) (by assumption) ?_
  rotate_left
  · (intro w hSw; (try dsimp only at hSw); go_simp; (try (with_reducible rfl)))
  try simp only [Act.put, List.setIfInBounds_toArray, List.set_cons_zero, List.set_cons_succ]
  refine wpAnyH_take (i := 16) (oi := ⟨some 51, _, _, _, _, _⟩) (v := ?_) rfl (by kernel_rfl) (by kernel_rfl) (by kernel_rfl) (fun _ _ _ h => h) (Or.inl ⟨by kernel_rfl, ?_⟩) (by assumption) ?_
  rotate_left
  · (intro w hSw; (try dsimp only at hSw); go_simp; (try (with_reducible rfl)))
  try simp only [Act.put, List.setIfInBounds_toArray, List.set_cons_zero, List.set_cons_succ]
  refine wpAnyH_take (i := 17) (oi := ⟨some 52, _, _, _, _, _⟩) (v := ?_) rfl (by kernel_rfl) (by kernel_rfl) (by kernel_rfl) (fun _ _ _ h => h) (Or.inl ⟨by kernel_rfl, ?_⟩) (by assumption) ?_
  rotate_left
  · (intro w hSw; (try dsimp only at hSw); go_simp; (try (with_reducible rfl)))
  try simp only [Act.put, List.setIfInBounds_toArray, List.set_cons_zero, List.set_cons_succ]
  refine wpAnyH_take (i := 18) (oi := ⟨some 53, _, _, _, _, _⟩) (v := ?_) rfl (by kernel_rfl) (by kernel_rfl) (by kernel_rfl) (fun _ _ _ h => h) (Or.inl ⟨by kernel_rfl, ?_⟩) (by assumption) ?_
  rotate_left
  · (intro w hSw; (try dsimp only at hSw); go_simp; (try (with_reducible rfl)))
  try simp only [Act.put, List.setIfInBounds_toArray, List.set_cons_zero, List.set_cons_succ]
  refine wpAnyH_take (i := 19) (oi := ⟨some 54, _, _, _, _, _⟩) (v := ?_) rfl (by kernel_rfl) (by kernel_rfl) (by kernel_rfl) (fun _ _ _ h => h) (Or.inl ⟨by kernel_rfl, ?_⟩) (by assumption) ?_
  rotate_left
  · (intro w hSw; (try dsimp only at hSw); go_simp; (try (with_reducible rfl)))
  try simp only [Act.put, List.setIfInBounds_toArray, List.set_cons_zero, List.set_cons_succ]
  refine wpAnyH_take (i := 20) (oi := ⟨some 55, _, _, _, _, _⟩) (v := ?_) rfl (by kernel_rfl) (by kernel_rfl) (by kernel_rfl) (fun _ _ _ h => h) (Or.inl ⟨by kernel_rfl, ?_⟩) (by assumption) ?_
  rotate_left
  · (intro w hSw; (try dsimp only at hSw); go_simp; (try (with_reducible rfl)))
  try simp only [Act.put, List.setIfInBounds_toArray, List.set_cons_zero, List.set_cons_succ]
  refine wpAnyH_take (i := 21) (oi := ⟨some 56, _, _, _, _, _⟩) (v := ?_) rfl (by kernel_rfl) (by kernel_rfl) (by kernel_rfl) (fun _ _ _ h => h) (Or.inl ⟨by kernel_rfl, ?_⟩) (by assumption) ?_
  rotate_left
  · (intro w hSw; (try dsimp only at hSw); go_simp; (try (with_reducible rfl)))
  try simp only [Act.put, List.setIfInBounds_toArray, List.set_cons_zero, List.set_cons_succ]
  refine wpAnyH_take (i := 22) (oi := ⟨some 57, _, _, _, _, _⟩) (v := ?_) rfl (by kernel_rfl) (by kernel_rfl) (by kernel_rfl) (fun _ _ _ h => h) (Or.inl ⟨by kernel_rfl, ?_⟩) (by assumption) ?_
  rotate_left
  · (intro w hSw; (try dsimp only at hSw); go_simp; (try (with_reducible rfl)))
  try simp only [Act.put, List.setIfInBounds_toArray, List.set_cons_zero, List.set_cons_succ]
  refine wpAnyH_take (i := 23) (oi := ⟨some 58, _, _, _, _, _⟩) (v := ?_) rfl (by kernel_rfl) (by kernel_rfl) (by kernel_rfl) (fun _ _ _ h => h) (Or.inl ⟨by kernel_rfl, ?_⟩) (by assumption) ?_
  rotate_left
  · (intro w hSw; (try dsimp only at hSw); go_simp; (try (with_reducible rfl)))
  try simp only [Act.put, List.setIfInBounds_toArray, List.set_cons_zero, List.set_cons_succ]
  refine wpAnyH_take (i := 24) (oi := ⟨some 59, _, _, _, _, _⟩) (v := ?_) rfl (by kernel_rfl) (by kernel_rfl) (by kernel_rfl) (fun _ _ _ h => h) (Or.inl ⟨by kernel_rfl, ?_⟩) (by assumption) ?_
  rotate_left
  · (intro w hSw; (try dsimp only at hSw); go_simp; (try (with_reducible rfl)))
  try simp only [Act.put, List.setIfInBounds_toArray, List.set_cons_zero, List.set_cons_succ]
  refine wpAnyH_take (i := 25) (oi := ⟨some 60, _, _, _, _, _⟩) (v := ?_) rfl (by kernel_rfl) (by kernel_rfl) (by kernel_rfl) (fun _ _ _ h => h) (Or.inl ⟨by kernel_rfl, ?_⟩) (by assumption) ?_
  rotate_left
  · (intro w hSw; (try dsimp only at hSw); go_simp; (try (with_reducible rfl)))
  try simp only [Act.put, List.setIfInBounds_toArray, List.set_cons_zero, List.set_cons_succ]
  refine wpAnyH_take (i := 26) (oi := ⟨some 61, _, _, _, _, _⟩) (v := ?_) rfl (by kernel_rfl) (by kernel_rfl) (by kernel_rfl) (fun _ _ _ h => h) (Or.inl ⟨by kernel_rfl, ?_⟩) (by assumption) ?_
  rotate_left
  · (intro w hSw; (try dsimp only at hSw); go_simp; (try (with_reducible rfl)))
  try simp only [Act.put, List.setIfInBounds_toArray, List.set_cons_zero, List.set_cons_succ]
  refine wpAnyH_take (i := 27) (oi := ⟨some 62, _, _, _, _, _⟩) (v := ?_) rfl (by kernel_rfl) (by kernel_rfl) (by kernel_rfl) (fun _ _ _ h => h) (Or.inl ⟨by kernel_rfl, ?_⟩) (by assumption) ?_
  rotate_left
  · (intro w hSw; (try dsimp only at hSw); go_simp; (try (with_reducible rfl)))
  try simp only [Act.put, List.setIfInBounds_toArray, List.set_cons_zero, List.set_cons_succ]
  refine wpAnyH_ready (rs := [28]) (by kernel_rfl) (by simp) ?_
  refine AllReadyH.cons (o := ⟨some 63, _, _, _, _, _⟩) rfl (fun K hK => ?_) AllReadyH.nil
  go_simp
  go_at_call 14
  refine (KF.out _).mono ?_
  rintro e v2 ⟨rfl, hv2⟩
  have P2x := Lib.hid (bstep OD.out hv2)
  clear hv2
  go_simp
  refine hK.out _ _ (HK.out _ P2x.out) (fun hHeld => ?_)
  try simp only [Act.put, List.setIfInBounds_toArray, List.set_cons_zero, List.set_cons_succ]
  refine wpAnyH_take (i := 29) (oi := ⟨some 64, _, _, _, _, _⟩) (v := ?_) rfl (by kernel_rfl) (by kernel_rfl) (by kernel_rfl) (fun _ _ _ h => h) (Or.inl ⟨by kernel_rfl, ?_⟩) (by assumption) ?_
  rotate_left
  · (intro w hSw; (try dsimp only at hSw); go_simp; (try (with_reducible rfl)))
  try simp only [Act.put, List.setIfInBounds_toArray, List.set_cons_zero, List.set_cons_succ]
  refine wpAnyH_take (i := 30) (oi := ⟨some 65, _, _, _, _, _⟩) (v := ?_) rfl (by kernel_rfl) (by kernel_rfl) (by kernel_rfl) (fun _ _ _ h => h) (Or.inl ⟨by kernel_rfl, ?_⟩) (by assumption) ?_
  rotate_left
  · (intro w hSw; (try dsimp only at hSw); go_simp; (try (with_reducible rfl)))
  try simp only [Act.put, List.setIfInBounds_toArray, List.set_cons_zero, List.set_cons_succ]
  refine wpAnyH_done (by kernel_rfl) ?_ _
  have OA := Lib.hid (bstep O2.out P2x.out)
  go_wp2_with fail
  refine (KG.out _).mono ?_
  rintro e wb ⟨rfl, hbb⟩
  by_cases hz : (gotF q.data.toList).2 = 0
  · obtain ⟨hput, hPid⟩ := putF_got hz
    rw [hz]
    generalize (gotF q.data.toList).1 = PP at *
    obtain ⟨pid, pep, pkd, ps⟩ := PP
    have KP2 := fun w => pput_any (w := w) pid pep pkd ⟨ps.toArray⟩ hPid
    have hput : putF pid pep pkd (⟨ps.toArray⟩ : ByteArray).data.toList = (q.data.toList, 0) := hput
    rw [hput, ← ba_list (a := q) rfl] at KP2
    have KP2 := Lib.hid KP2
    have OB := Lib.hid (belowAlloc (bstep OA.out hbb) (.cells #[.int .i64 pid, .int .i64 pep, .int .i64 pkd, .string ⟨ps.toArray⟩] 23))
    have QB := Lib.hid (Blk.new wb 23 #[.int .i64 pid, .int .i64 pep, .int .i64 pkd, .string ⟨ps.toArray⟩])
    unfold PG.val pageV at *
    dsimp only at *
    clear hbb hput
    have q0 := QB.out.cell_some (i := 0) rfl
    have q1 := QB.out.cell_some (i := 1) rfl
    have q2 := QB.out.cell_some (i := 2) rfl
    have q3 := QB.out.cell_some (i := 3) rfl
    go_wp2_with fail
    generalize hwc : wb.alloc (.cells #[.int .i64 pid, .int .i64 pep, .int .i64 pkd, .string ⟨ps.toArray⟩] 23) = wc at *
    clear hwc
    refine (KP2.out _).mono ?_
    rintro e wd ⟨rfl, hbd⟩
    have OD := Lib.hid (bstep OB.out hbd)
    clear hbd q0 q1 q2 q3
    go_wp2_with fail
    refine (KA.out _).mono ?_
    rintro e we ⟨rfl, hbe⟩
    have OE := Lib.hid (bstep OD.out hbe)
    clear hbe
    go_wp2_with fail
    go_ret
    exact ⟨by first | rfl | simp, OE.out⟩
  · have h0 := gotF_zero hz
    have hq : ((gotF q.data.toList).2 != 0) = true := by rw [bne_iff_ne]; exact hz
    rw [h0]
    generalize (gotF q.data.toList).2 = er at *
    have OB := Lib.hid (belowAlloc (bstep OA.out hbb) (.cells #[.int .i64 0, .int .i64 0, .int .i64 0, .string ⟨#[]⟩] 23))
    have QB := Lib.hid (Blk.new wb 23 #[.int .i64 0, .int .i64 0, .int .i64 0, .string ⟨#[]⟩])
    unfold PG.val PG.zero pageV at *
    dsimp only at *
    clear hbb h0 hz
    go_wp2_with fail
    generalize hwc : wb.alloc (.cells #[.int .i64 0, .int .i64 0, .int .i64 0, .string ⟨#[]⟩] 23) = wc at *
    clear hwc
    refine (KA.out _).mono ?_
    rintro e we ⟨rfl, hbe⟩
    have OE := Lib.hid (bstep OB.out hbe)
    have QE := QB.out.below hbe QB.out.lt
    clear hbe
    have q0 := QE.cell_some (i := 0) rfl
    have q1 := QE.cell_some (i := 1) rfl
    have q2 := QE.cell_some (i := 2) rfl
    have q3 := QE.cell_some (i := 3) rfl
    clear QE
    go_wp2_with fail
    go_ret
    exact ⟨by first | rfl | simp, OE.out⟩
theorem back_any {w : World} (id ep kd : Int) (s q : ByteArray) (hid : id ≤ 9223372036854775807) (hs : s.size ≤ maxLen) (hq : q.size ≤ maxLen) :
    Calls Try.prog 5 #[pageV id ep kd s, .string q] w fun e w' => e = .returned (.bool true) ∧ Below w.heap.size w w' := by
  by_cases h1 : 600 < s.size
  · exact back_idle id ep kd s q hs hq (.inl h1)
  by_cases h2 : 600 < q.size
  · exact back_idle id ep kd s q hs hq (.inr h2)
  by_cases h3 : (putF id ep kd s.data.toList).2 = 0
  · exact back_yes id ep kd s q hid h1 h2 h3
  · exact back_no id ep kd s q hid h1 h2 h3
end Go.Proofs.Ytmofbgcanehdoaa.Pg
