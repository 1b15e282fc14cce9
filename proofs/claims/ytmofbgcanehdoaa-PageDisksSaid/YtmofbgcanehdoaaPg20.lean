/- pages on the document's disk. -/
import Derived.Test.YtmofbgcanehdoaaPg19
import Derived.Test.YtmofbgcanehdoaaXa
import Derived.Deep.RegionHeld3
namespace Go.Proofs.Ytmofbgcanehdoaa.Pg
open Go.RowKit Pk Dk
attribute [local go_sem ↓] Go.wp_at_zero Go.wp_at_succ
set_option maxHeartbeats 1000000 in
theorem rmany_any (w : World) (n : Nat) (hn : n ≤ 1000000) :
    Calls Try.prog 21 #[.int .i64 (n : Nat)] w fun e w' => e = .returned (.int .i64 (manyF n : Nat)) ∧ w = w' := by
  by_cases h : n < 2
  · have h1 : (n : Int) < 2 := by omega
    have HM := Lib.hid (show ((manyF n : Nat) : Int) = 0 from by unfold manyF; omega)
    go_enter Try.func21, Try.ntmps21
    go_wp2_with fail
    go_ret
    refine ⟨?_, rfl⟩
    rw [HM.out]
    first | (simp; done) | (simp; omega)
  · have h1 : ¬ (n : Int) < 2 := by omega
    obtain ⟨m, rfl⟩ : ∃ m, n = m + 2 := ⟨n - 2, by omega⟩
    have e1 : IntKind.i64.wrap (((m + 2 : Nat) : Int) - 2) = (m : Int) := by rw [show (((m + 2 : Nat) : Int) - 2) = (m : Int) by omega]; exact IntWalk.i64_in _ (by omega)
    have HM := Lib.hid (show ((manyF (m + 2) : Nat) : Int) = (m : Int) / 4 from by unfold manyF; omega)
    go_enter Try.func21, Try.ntmps21
    go_wp2_with fail
    all_goals
      go_ret
      refine ⟨?_, rfl⟩
      rw [HM.out]
      first | (simp; done) | (simp; omega)
/-- so many of a page's sectors written, of the document's disk -/
def xw4 (x : X) (n k : Nat) (b : ByteArray) : Nat → X × Int
  | 0 => (x, 0)
  | i + 1 => if (xw4 x n k b i).2 = 0 then (xw4 x n k b i).1.writeF n ((k : Int) + i) (b.extract (64 * i) (64 * i + 64)) else xw4 x n k b i
theorem xw4_ok (x : X) (n k : Nat) (b : ByteArray) (i : Nat) (h : (xw4 x n k b i).2 = 0) : xw4 x n k b (i + 1) = (xw4 x n k b i).1.writeF n ((k : Int) + i) (b.extract (64 * i) (64 * i + 64)) := by
  show (if _ then _ else _) = _
  rw [if_pos h]
theorem xw4_stop (x : X) (n k : Nat) (b : ByteArray) (i j : Nat) (h : (xw4 x n k b i).2 ≠ 0) (hj : i ≤ j) : xw4 x n k b j = xw4 x n k b i := by
  induction j with
  | zero => rw [show i = 0 by omega]
  | succ j ih =>
    by_cases e : i = j + 1
    · rw [e]
    · have := ih (by omega)
      show (if _ then _ else _) = _
      rw [this, if_neg h]
theorem w4_rel {n : Nat} {d : D} {x : X} (h : Rel n d x) (k : Nat) (b : ByteArray) : ∀ i, (w4 d n k b.data.toList i).2 = (xw4 x n k b i).2 ∧ Rel n (w4 d n k b.data.toList i).1 (xw4 x n k b i).1
  | 0 => ⟨rfl, h⟩
  | i + 1 => by
    obtain ⟨h1, h2⟩ := w4_rel h k b i
    by_cases h0 : (xw4 x n k b i).2 = 0
    · rw [w4_ok _ _ _ _ _ (h1.trans h0), xw4_ok _ _ _ _ _ h0]
      have := h2.write ((k : Int) + i) (b.extract (64 * i) (64 * i + 64))
      rw [exl, show 64 * i + 64 - 64 * i = 64 by omega] at this
      exact this
    · rw [w4_stop _ _ _ _ i (i + 1) (by rw [h1]; exact h0) (by omega), xw4_stop _ _ _ _ i (i + 1) h0 (by omega)]
      exact ⟨h1, h2⟩
/-- a page written to the document's disk -/
def xpwriteF (x : X) (n : Nat) (id ep kd : Int) (s : List UInt8) : X × Int :=
  if (putF id ep kd s).2 ≠ 0 then (x, (putF id ep kd s).2)
  else if (manyF n : Int) ≤ id then (x, 3)
  else xw4 x n (2 + 4 * id.toNat) ⟨(putF id ep kd s).1.toArray⟩ 4
theorem pwrite_rel {n : Nat} {d : D} {x : X} (h : Rel n d x) (id ep kd : Int) (s : List UInt8) : (pwriteF d n id ep kd s).2 = (xpwriteF x n id ep kd s).2 ∧ Rel n (pwriteF d n id ep kd s).1 (xpwriteF x n id ep kd s).1 := by
  unfold pwriteF xpwriteF
  split
  · exact ⟨rfl, h⟩
  · split
    · exact ⟨rfl, h⟩
    · exact w4_rel h _ ⟨(putF id ep kd s).1.toArray⟩ 4
set_option maxRecDepth 100000 in
set_option maxHeartbeats 4000000 in
theorem rpwrite_no {w : World} {M : XL} {n : Nat} {x : X} (h : XAt w M n x) (id ep kd : Int) (s : ByteArray) (hid : id ≤ 9223372036854775807) (he : (putF id ep kd s.data.toList).2 ≠ 0 ∨ (manyF n : Int) ≤ id) :
    Calls Try.prog 22 #[xp M.b, pageV id ep kd s] w fun e w' => e = .returned (.int .i64 (xpwriteF x n id ep kd s.data.toList).2) ∧ XAt w' M n (xpwriteF x n id ep kd s.data.toList).1 ∧ Below w.heap.size w w' := by
  have O0 := Lib.hid (belowAlloc (Below.refl w.heap.size w) (.cells #[.int .i64 id, .int .i64 ep, .int .i64 kd, .string s] 23))
  have B0 := Lib.hid (Blk.new w 23 #[.int .i64 id, .int .i64 ep, .int .i64 kd, .string s])
  have K := Lib.hid (fun w => rput_any (w := w) id ep kd s hid)
  have hn := h.ok.small
  have KM := Lib.hid (fun w => rmany_any w n (by omega))
  have HD := Lib.hid h
  have HF := Lib.hid (fun w' (hb : Below w.heap.size w w') => (h.below hb).f0)
  have c0 := B0.out.cell_some (i := 0) rfl
  have c1 := B0.out.cell_some (i := 1) rfl
  have c2 := B0.out.cell_some (i := 2) rfl
  have c3 := B0.out.cell_some (i := 3) rfl
  have hcase : ((putF id ep kd s.data.toList).2 ≠ 0 ∧ xpwriteF x n id ep kd s.data.toList = (x, (putF id ep kd s.data.toList).2)) ∨ ((putF id ep kd s.data.toList).2 = 0 ∧ (manyF n : Int) ≤ id ∧ xpwriteF x n id ep kd s.data.toList = (x, 3)) := by
    by_cases h1 : (putF id ep kd s.data.toList).2 = 0
    · have h2 := he.resolve_left (fun h => h h1)
      right
      refine ⟨h1, h2, ?_⟩
      unfold xpwriteF; rw [if_neg (by simpa using h1), if_pos h2]
    · left
      refine ⟨h1, ?_⟩
      unfold xpwriteF; rw [if_pos h1]
  generalize (putF id ep kd s.data.toList).2 = er at *
  generalize (⟨(putF id ep kd s.data.toList).1.toArray⟩ : ByteArray) = S at *
  generalize xpwriteF x n id ep kd s.data.toList = R at *
  generalize manyF n = mn at *
  clear h he
  unfold pageV xp at *
  rcases hcase with ⟨h1, h2⟩ | ⟨h1, h3, h2⟩
  · subst h2
    have hb : (er != 0) = true := by rw [bne_iff_ne]; exact h1
    go_enter Try.func22, Try.ntmps22
    go_wp2_with fail
    refine (K.out _).mono ?_
    rintro e w1 ⟨rfl, hb1⟩
    have O1 := Lib.hid (bstep O0.out hb1)
    clear hb1
    go_wp2_with fail
    go_ret
    exact ⟨rfl, HD.out.below O1.out, O1.out⟩
  · subst h2
    subst h1
    go_enter Try.func22, Try.ntmps22
    go_wp2_with fail
    refine (K.out _).mono ?_
    rintro e w1 ⟨rfl, hb1⟩
    have O1 := Lib.hid (bstep O0.out hb1)
    have B1 := Lib.hid (B0.out.below hb1 B0.out.lt)
    clear hb1 c0 c1 c2 c3
    have c0 := B1.out.cell_some (i := 0) rfl
    have f0 := HF.out _ O1.out
    go_wp2_with fail
    go_quiet ((go_at_call 21; exact quietS (KM.out _)))
    go_wp2_with fail
    go_ret
    exact ⟨rfl, HD.out.below (Below_drewN O1.out _), Below_drewN O1.out _⟩
set_option maxRecDepth 100000 in
set_option maxHeartbeats 8000000 in
theorem rpwrite_yes {w : World} {M : XL} {n : Nat} {d : D} {x : X} (h : XAt w M n x) (r : Rel n d x) (id : Nat) (ep kd : Int) (s : ByteArray) (hp : (putF id ep kd s.data.toList).2 = 0) (hm : id < manyF n) (hc : d.calls ≤ 999990) (hr : d.armed ≤ 9223372036854775807) :
    Calls Try.prog 22 #[xp M.b, pageV id ep kd s] w fun e w' => e = .returned (.int .i64 (xw4 x n (2 + 4 * id) ⟨(putF id ep kd s.data.toList).1.toArray⟩ 4).2) ∧ XAt w' M n (xw4 x n (2 + 4 * id) ⟨(putF id ep kd s.data.toList).1.toArray⟩ 4).1 ∧ Only M.fp w w' := by
  have hn := h.ok.small
  have hmn : manyF n ≤ 1023 := by unfold manyF; omega
  have O0 := Lib.hid (belowAlloc (Below.refl w.heap.size w) (.cells #[.int .i64 (id : Nat), .int .i64 ep, .int .i64 kd, .string s] 23))
  have B0 := Lib.hid (Blk.new w 23 #[.int .i64 (id : Nat), .int .i64 ep, .int .i64 kd, .string s])
  have K := fun w => rput_any (w := w) id ep kd s (by omega)
  have hlen := (putF_len hp).1
  rw [hp] at K
  obtain ⟨T, hT⟩ : ∃ T : ByteArray, (⟨(putF id ep kd s.data.toList).1.toArray⟩ : ByteArray) = T := ⟨_, rfl⟩
  rw [hT] at K ⊢
  have hTs : T.size = 256 := by rw [← hT, str_size, hlen]
  have K := Lib.hid K
  have KM := Lib.hid (fun w => rmany_any w n (by omega))
  have HF := Lib.hid (fun w' (hb : Below w.heap.size w w') => (h.below hb).f0)
  have HBX := Lib.hid (show ∀ i, i ≤ 4 → (xw4 x n (2 + 4 * id) T i).1.calls ≤ 1000000 ∧ 0 ≤ (xw4 x n (2 + 4 * id) T i).1.calls ∧ (xw4 x n (2 + 4 * id) T i).1.arm ≤ 9223372036854775807 ∧ 0 ≤ (xw4 x n (2 + 4 * id) T i).1.arm from fun i hi => by
    have b := w4_bd d n (2 + 4 * id) T.data.toList hr i
    have q := (w4_rel r (2 + 4 * id) T i).2
    have e1 := q.calls
    have e2 := q.arm
    have e3 := q.dok.calls
    have e4 := q.dok.armed
    omega)
  have H4 := Lib.hid (xw4_ok x n (2 + 4 * id) T)
  have HS := Lib.hid (xw4_stop x n (2 + 4 * id) T)
  have HD := Lib.hid h
  have HLT := Lib.hid (fun y hy => h.lt y hy)
  have hmI : ¬ ((manyF n : Nat) : Int) ≤ (id : Int) := by omega
  have c0 := B0.out.cell_some (i := 0) rfl
  have c1 := B0.out.cell_some (i := 1) rfl
  have c2 := B0.out.cell_some (i := 2) rfl
  have c3 := B0.out.cell_some (i := 3) rfl
  generalize manyF n = mn at *
  have hmE : decide (mn ≤ id) = false := by simp; omega
  have hmF : decide (((mn : Nat) : Int) ≤ (id : Int)) = false := by simp; omega
  clear h hp hT hlen hc hr r
  unfold pageV xp at *
  go_enter Try.func22, Try.ntmps22
  go_wp2_with fail
  refine (K.out _).mono ?_
  rintro e w1 ⟨rfl, hb1⟩
  have O1 := Lib.hid (bstep O0.out hb1)
  have B1 := Lib.hid (B0.out.below hb1 B0.out.lt)
  clear hb1 c0 c1 c2 c3 K
  have c0 := B1.out.cell_some (i := 0) rfl
  have f0 := HF.out _ O1.out
  go_wp2_with fail
  go_quiet ((go_at_call 21; exact quietS (KM.out _)))
  have O2 := Lib.hid (Below_drewN O1.out nq)
  have B2 := Lib.hid (B1.out.drewN nq)
  generalize hw2 : w1.drewN nq = w2 at *
  clear c0 O1 B1 hw2 KM f0
  have D2 := Lib.hid (HD.out.below O2.out)
  have hb2 : w.heap.size ∉ M.fp := fun hm => by have := HLT.out _ hm; omega
  have HNF := Lib.hid hb2
  clear hb2
  go_wp2_with fail
  go_loopw [7] (fun iv wr => ∃ i : Nat, i ≤ 4 ∧ iv = .int .i64 i ∧ Hid (XAt wr M n (xw4 x n (2 + 4 * id) T i).1) ∧ Hid ((xw4 x n (2 + 4 * id) T i).2 = 0) ∧ Hid (Only M.fp w wr) ∧ Hid (Blk wr w.heap.size 23 #[.int .i64 (id : Nat), .int .i64 ep, .int .i64 kd, .string s])) (fun iv _ => 4 - (intOf iv).toNat)
  case atStart => exact ⟨0, by omega, rfl, D2, Lib.hid rfl, Lib.hid (.of_below O2.out), B2⟩
  case round =>
    obtain ⟨i, hi, rfl, DD, EZ, O, B⟩ := hrel
    have ii : i = 0 ∨ i = 1 ∨ i = 2 ∨ i = 3 ∨ i = 4 := by omega
    have f0 := B.out.cell_some (i := 0) rfl
    have y1 : IntKind.i64.wrap (4 * (id : Int)) = 4 * (id : Int) := IntWalk.i64_in _ (by omega)
    have y2 : IntKind.i64.wrap (2 + 4 * (id : Int)) = 2 + 4 * (id : Int) := IntWalk.i64_in _ (by omega)
    rcases ii with rfl | rfl | rfl | rfl | rfl
    · have bd := HBX.out 0 (by omega)
      have KW := xwrite_any (DD.out.drew) (2 + 4 * (id : Int)) (T.extract 0 64) (by rw [ByteArray.size_extract]; omega) bd.2.1 (by omega) bd.2.2.2 bd.2.2.1
      have h4 := H4.out 0 EZ.out
      rw [show ((2 + 4 * id : Nat) : Int) + ((0 : Nat) : Int) = 2 + 4 * (id : Int) from by omega, show T.extract (64 * 0) (64 * 0 + 64) = T.extract 0 64 from rfl] at h4
      rw [← h4] at KW
      unfold xp at KW
      have KW := Lib.hid KW
      clear h4 bd
      have y3 : IntKind.i64.wrap (2 + 4 * (id : Int) + 0) = 2 + 4 * (id : Int) + 0 := IntWalk.i64_in _ (by omega)
      have l1 : IntKind.i64.wrap 0 = 0 := rfl
      have l2 : IntKind.i64.wrap 64 = 64 := rfl
      go_wp2_with fail
      refine wp_region_held_drew (S := fun W' => W'.cell? ⟨w.heap.size, 0, none⟩ = some (.int .i64 (id : Nat))) (by kernel_rfl) (B.out.drew.cell_some (i := 0) rfl) (fun hHeld => ?_)
      refine wpAnyH_take (i := 0) (oi := ⟨some 30, _, _, _, _, _⟩) (v := ?_) rfl (by kernel_rfl) (by kernel_rfl) (by kernel_rfl) (fun _ _ _ h => h) (Or.inl ⟨by kernel_rfl, ?_⟩) (by assumption) ?_
      rotate_left
      · (intro w hSw; (try dsimp only at hSw); go_simp; (try (with_reducible rfl)))
      try simp only [Act.put, List.setIfInBounds_toArray, List.set_cons_zero, List.set_cons_succ]
      refine wpAnyH_take (i := 1) (oi := ⟨some 31, _, _, _, _, _⟩) (v := ?_) rfl (by kernel_rfl) (by kernel_rfl) (by kernel_rfl) (fun _ _ _ h => h) (Or.inl ⟨by kernel_rfl, ?_⟩) (by assumption) ?_
      rotate_left
      · (intro w hSw; (try dsimp only at hSw); go_simp; (try (with_reducible rfl)))
      try simp only [Act.put, List.setIfInBounds_toArray, List.set_cons_zero, List.set_cons_succ]
      refine wpAnyH_take (i := 2) (oi := ⟨some 32, _, _, _, _, _⟩) (v := ?_) rfl (by kernel_rfl) (by kernel_rfl) (by kernel_rfl) (fun _ _ _ h => h) (Or.inl ⟨by kernel_rfl, ?_⟩) (by assumption) ?_
      rotate_left
      · (intro w hSw; (try dsimp only at hSw); go_simp; (try (with_reducible rfl)))
      try simp only [Act.put, List.setIfInBounds_toArray, List.set_cons_zero, List.set_cons_succ]
      refine wpAnyH_take (i := 3) (oi := ⟨some 33, _, _, _, _, _⟩) (v := ?_) rfl (by kernel_rfl) (by kernel_rfl) (by kernel_rfl) (fun _ _ _ h => h) (Or.inl ⟨by kernel_rfl, ?_⟩) (by assumption) ?_
      rotate_left
      · (intro w hSw; (try dsimp only at hSw); go_simp; (try (with_reducible rfl)))
      try simp only [Act.put, List.setIfInBounds_toArray, List.set_cons_zero, List.set_cons_succ]
      refine wpAnyH_take (i := 4) (oi := ⟨some 34, _, _, _, _, _⟩) (v := ?_) rfl (by kernel_rfl) (by kernel_rfl) (by kernel_rfl) (fun _ _ _ h => h) (Or.inl ⟨by kernel_rfl, ?_⟩) (by assumption) ?_
      rotate_left
      · (intro w hSw; (try dsimp only at hSw); go_simp; (try (with_reducible rfl)))
      try simp only [Act.put, List.setIfInBounds_toArray, List.set_cons_zero, List.set_cons_succ]
      refine wpAnyH_take (i := 5) (oi := ⟨some 35, _, _, _, _, _⟩) (v := ?_) rfl (by kernel_rfl) (by kernel_rfl) (by kernel_rfl) (fun _ _ _ h => h) (Or.inl ⟨by kernel_rfl, ?_⟩) (by assumption) ?_
      rotate_left
      · (intro w hSw; (try dsimp only at hSw); go_simp; (try (with_reducible rfl)))
      try simp only [Act.put, List.setIfInBounds_toArray, List.set_cons_zero, List.set_cons_succ]
      refine wpAnyH_take (i := 6) (oi := ⟨some 36, _, _, _, _, _⟩) (v := ?_) rfl (by kernel_rfl) (by kernel_rfl) (by kernel_rfl) (fun _ _ _ h => h) (Or.inl ⟨by kernel_rfl, ?_⟩) (by assumption) ?_
      rotate_left
      · (intro w hSw; (try dsimp only at hSw); go_simp; (try (with_reducible rfl)))
      try simp only [Act.put, List.setIfInBounds_toArray, List.set_cons_zero, List.set_cons_succ]
      refine wpAnyH_take (i := 7) (oi := ⟨some 37, _, _, _, _, _⟩) (v := ?_) rfl (by kernel_rfl) (by kernel_rfl) (by kernel_rfl) (fun _ _ _ h => h) (Or.inl ⟨by kernel_rfl, ?_⟩) (by assumption) ?_
      rotate_left
      · (intro w hSw; (try dsimp only at hSw); go_simp; (try (with_reducible rfl)))
      try simp only [Act.put, List.setIfInBounds_toArray, List.set_cons_zero, List.set_cons_succ]
      refine wpAnyH_take (i := 8) (oi := ⟨some 38, _, _, _, _, _⟩) (v := ?_) rfl (by kernel_rfl) (by kernel_rfl) (by kernel_rfl) (fun _ _ _ h => h) (Or.inl ⟨by kernel_rfl, ?_⟩) (by assumption) ?_
      rotate_left
      · (intro w hSw; (try dsimp only at hSw); go_simp; (try (with_reducible rfl)))
      try simp only [Act.put, List.setIfInBounds_toArray, List.set_cons_zero, List.set_cons_succ]
      refine wpAnyH_take (i := 9) (oi := ⟨some 39, _, _, _, _, _⟩) (v := ?_) rfl (by kernel_rfl) (by kernel_rfl) (by kernel_rfl) (fun _ _ _ h => h) (Or.inl ⟨by kernel_rfl, ?_⟩) (by assumption) ?_
      rotate_left
      · (intro w hSw; (try dsimp only at hSw); go_simp; (try (with_reducible rfl)))
      try simp only [Act.put, List.setIfInBounds_toArray, List.set_cons_zero, List.set_cons_succ]
      refine wpAnyH_take (i := 10) (oi := ⟨some 40, _, _, _, _, _⟩) (v := ?_) rfl (by kernel_rfl) (by kernel_rfl) (by kernel_rfl) (fun _ _ _ h => h) (Or.inl ⟨by kernel_rfl, ?_⟩) (by assumption) ?_
      rotate_left
      · (intro w hSw; (try dsimp only at hSw); go_simp; (try (with_reducible rfl)))
      try simp only [Act.put, List.setIfInBounds_toArray, List.set_cons_zero, List.set_cons_succ]
      refine wpAnyH_take (i := 11) (oi := ⟨some 41, _, _, _, _, _⟩) (v := ?_) rfl (by kernel_rfl) (by kernel_rfl) (by kernel_rfl) (fun _ _ _ h => h) (Or.inl ⟨by kernel_rfl, ?_⟩) (by assumption) ?_
      rotate_left
      · (intro w hSw; (try dsimp only at hSw); go_simp; (try (with_reducible rfl)))
      try simp only [Act.put, List.setIfInBounds_toArray, List.set_cons_zero, List.set_cons_succ]
      refine wpAnyH_take (i := 12) (oi := ⟨some 42, _, _, _, _, _⟩) (v := ?_) rfl (by kernel_rfl) (by kernel_rfl) (by kernel_rfl) (fun _ _ _ h => h) (Or.inl ⟨by kernel_rfl, ?_⟩) (by assumption) ?_
      rotate_left
      · (intro w hSw; (try dsimp only at hSw); go_simp; (try (with_reducible rfl)))
      try simp only [Act.put, List.setIfInBounds_toArray, List.set_cons_zero, List.set_cons_succ]
      refine wpAnyH_take (i := 13) (oi := ⟨some 43, _, _, _, _, _⟩) (v := ?_) rfl (by kernel_rfl) (by kernel_rfl) (by kernel_rfl) (fun _ _ _ h => h) (Or.inl ⟨by kernel_rfl, ?_⟩) (by assumption) ?_
      rotate_left
      · (intro w hSw; (try dsimp only at hSw); go_simp; (try (with_reducible rfl)))
      try simp only [Act.put, List.setIfInBounds_toArray, List.set_cons_zero, List.set_cons_succ]
      refine wpAnyH_ready (rs := [14]) (by kernel_rfl) (by simp) ?_
      refine AllReadyH.cons (o := ⟨some 44, _, _, _, _, _⟩) rfl (fun K hK => ?_) AllReadyH.nil
      go_simp
      go_at_call 29
      refine KW.out.mono ?_
      rintro e wz ⟨rfl, dd, oz⟩
      have DZ := Lib.hid dd
      have OZ := Lib.hid (O.out.drew.trans oz)
      have BZ := Lib.hid (B.out.drew.only oz HNF.out)
      clear dd oz
      go_simp
      refine hK.out _ _ (BZ.out.cell_some (i := 0) rfl) (fun hHeld => ?_)
      try simp only [Act.put, List.setIfInBounds_toArray, List.set_cons_zero, List.set_cons_succ]
      refine wpAnyH_take (i := 15) (oi := ⟨some 8, _, _, _, _, _⟩) (v := ?_) rfl (by kernel_rfl) (by kernel_rfl) (by kernel_rfl) (fun _ _ _ h => h) (Or.inl ⟨by kernel_rfl, ?_⟩) (by assumption) ?_
      rotate_left
      · (intro w hSw; (try dsimp only at hSw); go_simp; (try (with_reducible rfl)))
      try simp only [Act.put, List.setIfInBounds_toArray, List.set_cons_zero, List.set_cons_succ]
      refine wpAnyH_done (by kernel_rfl) ?_ _
      by_cases hz : (xw4 x n (2 + 4 * id) T 1).2 = 0
      · have HZ := Lib.hid hz
        have hq : ((xw4 x n (2 + 4 * id) T 1).2 != 0) = false := by rw [hz]; rfl
        clear hz
        go_wp2_with fail
        go_roundw
        case rel => exact ⟨1, by omega, by first | rfl | simp, DZ, HZ, OZ, BZ⟩
        case measure => first | decide | simp [intOf]
      · have hs := HS.out 1 4 hz (by omega)
        have HSS := Lib.hid hs
        have hq : ((xw4 x n (2 + 4 * id) T 1).2 != 0) = true := by rw [bne_iff_ne]; exact hz
        clear hz hs
        go_wp2_with fail
        go_ret
        exact ⟨by first | rfl | (rw [HSS.out]; rfl), by first | exact DZ.out | (rw [HSS.out]; exact DZ.out), OZ.out⟩
    · have bd := HBX.out 1 (by omega)
      have KW := xwrite_any (DD.out.drew) (2 + 4 * (id : Int) + 1) (T.extract 64 128) (by rw [ByteArray.size_extract]; omega) bd.2.1 (by omega) bd.2.2.2 bd.2.2.1
      have h4 := H4.out 1 EZ.out
      rw [show ((2 + 4 * id : Nat) : Int) + ((1 : Nat) : Int) = 2 + 4 * (id : Int) + 1 from by omega, show T.extract (64 * 1) (64 * 1 + 64) = T.extract 64 128 from rfl] at h4
      rw [← h4] at KW
      unfold xp at KW
      have KW := Lib.hid KW
      clear h4 bd
      have y3 : IntKind.i64.wrap (2 + 4 * (id : Int) + 1) = 2 + 4 * (id : Int) + 1 := IntWalk.i64_in _ (by omega)
      have l1 : IntKind.i64.wrap 64 = 64 := rfl
      have l2 : IntKind.i64.wrap 128 = 128 := rfl
      go_wp2_with fail
      refine wp_region_held_drew (S := fun W' => W'.cell? ⟨w.heap.size, 0, none⟩ = some (.int .i64 (id : Nat))) (by kernel_rfl) (B.out.drew.cell_some (i := 0) rfl) (fun hHeld => ?_)
      refine wpAnyH_take (i := 0) (oi := ⟨some 30, _, _, _, _, _⟩) (v := ?_) rfl (by kernel_rfl) (by kernel_rfl) (by kernel_rfl) (fun _ _ _ h => h) (Or.inl ⟨by kernel_rfl, ?_⟩) (by assumption) ?_
      rotate_left
      · (intro w hSw; (try dsimp only at hSw); go_simp; (try (with_reducible rfl)))
      try simp only [Act.put, List.setIfInBounds_toArray, List.set_cons_zero, List.set_cons_succ]
      refine wpAnyH_take (i := 1) (oi := ⟨some 31, _, _, _, _, _⟩) (v := ?_) rfl (by kernel_rfl) (by kernel_rfl) (by kernel_rfl) (fun _ _ _ h => h) (Or.inl ⟨by kernel_rfl, ?_⟩) (by assumption) ?_
      rotate_left
      · (intro w hSw; (try dsimp only at hSw); go_simp; (try (with_reducible rfl)))
      try simp only [Act.put, List.setIfInBounds_toArray, List.set_cons_zero, List.set_cons_succ]
      refine wpAnyH_take (i := 2) (oi := ⟨some 32, _, _, _, _, _⟩) (v := ?_) rfl (by kernel_rfl) (by kernel_rfl) (by kernel_rfl) (fun _ _ _ h => h) (Or.inl ⟨by kernel_rfl, ?_⟩) (by assumption) ?_
      rotate_left
      · (intro w hSw; (try dsimp only at hSw); go_simp; (try (with_reducible rfl)))
      try simp only [Act.put, List.setIfInBounds_toArray, List.set_cons_zero, List.set_cons_succ]
      refine wpAnyH_take (i := 3) (oi := ⟨some 33, _, _, _, _, _⟩) (v := ?_) rfl (by kernel_rfl) (by kernel_rfl) (by kernel_rfl) (fun _ _ _ h => h) (Or.inl ⟨by kernel_rfl, ?_⟩) (by assumption) ?_
      rotate_left
      · (intro w hSw; (try dsimp only at hSw); go_simp; (try (with_reducible rfl)))
      try simp only [Act.put, List.setIfInBounds_toArray, List.set_cons_zero, List.set_cons_succ]
      refine wpAnyH_take (i := 4) (oi := ⟨some 34, _, _, _, _, _⟩) (v := ?_) rfl (by kernel_rfl) (by kernel_rfl) (by kernel_rfl) (fun _ _ _ h => h) (Or.inl ⟨by kernel_rfl, ?_⟩) (by assumption) ?_
      rotate_left
      · (intro w hSw; (try dsimp only at hSw); go_simp; (try (with_reducible rfl)))
      try simp only [Act.put, List.setIfInBounds_toArray, List.set_cons_zero, List.set_cons_succ]
      refine wpAnyH_take (i := 5) (oi := ⟨some 35, _, _, _, _, _⟩) (v := ?_) rfl (by kernel_rfl) (by kernel_rfl) (by kernel_rfl) (fun _ _ _ h => h) (Or.inl ⟨by kernel_rfl, ?_⟩) (by assumption) ?_
      rotate_left
      · (intro w hSw; (try dsimp only at hSw); go_simp; (try (with_reducible rfl)))
      try simp only [Act.put, List.setIfInBounds_toArray, List.set_cons_zero, List.set_cons_succ]
      refine wpAnyH_take (i := 6) (oi := ⟨some 36, _, _, _, _, _⟩) (v := ?_) rfl (by kernel_rfl) (by kernel_rfl) (by kernel_rfl) (fun _ _ _ h => h) (Or.inl ⟨by kernel_rfl, ?_⟩) (by assumption) ?_
      rotate_left
      · (intro w hSw; (try dsimp only at hSw); go_simp; (try (with_reducible rfl)))
      try simp only [Act.put, List.setIfInBounds_toArray, List.set_cons_zero, List.set_cons_succ]
      refine wpAnyH_take (i := 7) (oi := ⟨some 37, _, _, _, _, _⟩) (v := ?_) rfl (by kernel_rfl) (by kernel_rfl) (by kernel_rfl) (fun _ _ _ h => h) (Or.inl ⟨by kernel_rfl, ?_⟩) (by assumption) ?_
      rotate_left
      · (intro w hSw; (try dsimp only at hSw); go_simp; (try (with_reducible rfl)))
      try simp only [Act.put, List.setIfInBounds_toArray, List.set_cons_zero, List.set_cons_succ]
      refine wpAnyH_take (i := 8) (oi := ⟨some 38, _, _, _, _, _⟩) (v := ?_) rfl (by kernel_rfl) (by kernel_rfl) (by kernel_rfl) (fun _ _ _ h => h) (Or.inl ⟨by kernel_rfl, ?_⟩) (by assumption) ?_
      rotate_left
      · (intro w hSw; (try dsimp only at hSw); go_simp; (try (with_reducible rfl)))
      try simp only [Act.put, List.setIfInBounds_toArray, List.set_cons_zero, List.set_cons_succ]
      refine wpAnyH_take (i := 9) (oi := ⟨some 39, _, _, _, _, _⟩) (v := ?_) rfl (by kernel_rfl) (by kernel_rfl) (by kernel_rfl) (fun _ _ _ h => h) (Or.inl ⟨by kernel_rfl, ?_⟩) (by assumption) ?_
      rotate_left
      · (intro w hSw; (try dsimp only at hSw); go_simp; (try (with_reducible rfl)))
      try simp only [Act.put, List.setIfInBounds_toArray, List.set_cons_zero, List.set_cons_succ]
      refine wpAnyH_take (i := 10) (oi := ⟨some 40, _, _, _, _, _⟩) (v := ?_) rfl (by kernel_rfl) (by kernel_rfl) (by kernel_rfl) (fun _ _ _ h => h) (Or.inl ⟨by kernel_rfl, ?_⟩) (by assumption) ?_
      rotate_left
      · (intro w hSw; (try dsimp only at hSw); go_simp; (try (with_reducible rfl)))
      try simp only [Act.put, List.setIfInBounds_toArray, List.set_cons_zero, List.set_cons_succ]
      refine wpAnyH_take (i := 11) (oi := ⟨some 41, _, _, _, _, _⟩) (v := ?_) rfl (by kernel_rfl) (by kernel_rfl) (by kernel_rfl) (fun _ _ _ h => h) (Or.inl ⟨by kernel_rfl, ?_⟩) (by assumption) ?_
      rotate_left
      · (intro w hSw; (try dsimp only at hSw); go_simp; (try (with_reducible rfl)))
      try simp only [Act.put, List.setIfInBounds_toArray, List.set_cons_zero, List.set_cons_succ]
      refine wpAnyH_take (i := 12) (oi := ⟨some 42, _, _, _, _, _⟩) (v := ?_) rfl (by kernel_rfl) (by kernel_rfl) (by kernel_rfl) (fun _ _ _ h => h) (Or.inl ⟨by kernel_rfl, ?_⟩) (by assumption) ?_
      rotate_left
      · (intro w hSw; (try dsimp only at hSw); go_simp; (try (with_reducible rfl)))
      try simp only [Act.put, List.setIfInBounds_toArray, List.set_cons_zero, List.set_cons_succ]
      refine wpAnyH_take (i := 13) (oi := ⟨some 43, _, _, _, _, _⟩) (v := ?_) rfl (by kernel_rfl) (by kernel_rfl) (by kernel_rfl) (fun _ _ _ h => h) (Or.inl ⟨by kernel_rfl, ?_⟩) (by assumption) ?_
      rotate_left
      · (intro w hSw; (try dsimp only at hSw); go_simp; (try (with_reducible rfl)))
      try simp only [Act.put, List.setIfInBounds_toArray, List.set_cons_zero, List.set_cons_succ]
      refine wpAnyH_ready (rs := [14]) (by kernel_rfl) (by simp) ?_
      refine AllReadyH.cons (o := ⟨some 44, _, _, _, _, _⟩) rfl (fun K hK => ?_) AllReadyH.nil
      go_simp
      go_at_call 29
      refine KW.out.mono ?_
      rintro e wz ⟨rfl, dd, oz⟩
      have DZ := Lib.hid dd
      have OZ := Lib.hid (O.out.drew.trans oz)
      have BZ := Lib.hid (B.out.drew.only oz HNF.out)
      clear dd oz
      go_simp
      refine hK.out _ _ (BZ.out.cell_some (i := 0) rfl) (fun hHeld => ?_)
      try simp only [Act.put, List.setIfInBounds_toArray, List.set_cons_zero, List.set_cons_succ]
      refine wpAnyH_take (i := 15) (oi := ⟨some 8, _, _, _, _, _⟩) (v := ?_) rfl (by kernel_rfl) (by kernel_rfl) (by kernel_rfl) (fun _ _ _ h => h) (Or.inl ⟨by kernel_rfl, ?_⟩) (by assumption) ?_
      rotate_left
      · (intro w hSw; (try dsimp only at hSw); go_simp; (try (with_reducible rfl)))
      try simp only [Act.put, List.setIfInBounds_toArray, List.set_cons_zero, List.set_cons_succ]
      refine wpAnyH_done (by kernel_rfl) ?_ _
      by_cases hz : (xw4 x n (2 + 4 * id) T 2).2 = 0
      · have HZ := Lib.hid hz
        have hq : ((xw4 x n (2 + 4 * id) T 2).2 != 0) = false := by rw [hz]; rfl
        clear hz
        go_wp2_with fail
        go_roundw
        case rel => exact ⟨2, by omega, by first | rfl | simp, DZ, HZ, OZ, BZ⟩
        case measure => first | decide | simp [intOf]
      · have hs := HS.out 2 4 hz (by omega)
        have HSS := Lib.hid hs
        have hq : ((xw4 x n (2 + 4 * id) T 2).2 != 0) = true := by rw [bne_iff_ne]; exact hz
        clear hz hs
        go_wp2_with fail
        go_ret
        exact ⟨by first | rfl | (rw [HSS.out]; rfl), by first | exact DZ.out | (rw [HSS.out]; exact DZ.out), OZ.out⟩
    · have bd := HBX.out 2 (by omega)
      have KW := xwrite_any (DD.out.drew) (2 + 4 * (id : Int) + 2) (T.extract 128 192) (by rw [ByteArray.size_extract]; omega) bd.2.1 (by omega) bd.2.2.2 bd.2.2.1
      have h4 := H4.out 2 EZ.out
      rw [show ((2 + 4 * id : Nat) : Int) + ((2 : Nat) : Int) = 2 + 4 * (id : Int) + 2 from by omega, show T.extract (64 * 2) (64 * 2 + 64) = T.extract 128 192 from rfl] at h4
      rw [← h4] at KW
      unfold xp at KW
      have KW := Lib.hid KW
      clear h4 bd
      have y3 : IntKind.i64.wrap (2 + 4 * (id : Int) + 2) = 2 + 4 * (id : Int) + 2 := IntWalk.i64_in _ (by omega)
      have l1 : IntKind.i64.wrap 128 = 128 := rfl
      have l2 : IntKind.i64.wrap 192 = 192 := rfl
      go_wp2_with fail
      refine wp_region_held_drew (S := fun W' => W'.cell? ⟨w.heap.size, 0, none⟩ = some (.int .i64 (id : Nat))) (by kernel_rfl) (B.out.drew.cell_some (i := 0) rfl) (fun hHeld => ?_)
      refine wpAnyH_take (i := 0) (oi := ⟨some 30, _, _, _, _, _⟩) (v := ?_) rfl (by kernel_rfl) (by kernel_rfl) (by kernel_rfl) (fun _ _ _ h => h) (Or.inl ⟨by kernel_rfl, ?_⟩) (by assumption) ?_
      rotate_left
      · (intro w hSw; (try dsimp only at hSw); go_simp; (try (with_reducible rfl)))
      try simp only [Act.put, List.setIfInBounds_toArray, List.set_cons_zero, List.set_cons_succ]
      refine wpAnyH_take (i := 1) (oi := ⟨some 31, _, _, _, _, _⟩) (v := ?_) rfl (by kernel_rfl) (by kernel_rfl) (by kernel_rfl) (fun _ _ _ h => h) (Or.inl ⟨by kernel_rfl, ?_⟩) (by assumption) ?_
      rotate_left
      · (intro w hSw; (try dsimp only at hSw); go_simp; (try (with_reducible rfl)))
      try simp only [Act.put, List.setIfInBounds_toArray, List.set_cons_zero, List.set_cons_succ]
      refine wpAnyH_take (i := 2) (oi := ⟨some 32, _, _, _, _, _⟩) (v := ?_) rfl (by kernel_rfl) (by kernel_rfl) (by kernel_rfl) (fun _ _ _ h => h) (Or.inl ⟨by kernel_rfl, ?_⟩) (by assumption) ?_
      rotate_left
      · (intro w hSw; (try dsimp only at hSw); go_simp; (try (with_reducible rfl)))
      try simp only [Act.put, List.setIfInBounds_toArray, List.set_cons_zero, List.set_cons_succ]
      refine wpAnyH_take (i := 3) (oi := ⟨some 33, _, _, _, _, _⟩) (v := ?_) rfl (by kernel_rfl) (by kernel_rfl) (by kernel_rfl) (fun _ _ _ h => h) (Or.inl ⟨by kernel_rfl, ?_⟩) (by assumption) ?_
      rotate_left
      · (intro w hSw; (try dsimp only at hSw); go_simp; (try (with_reducible rfl)))
      try simp only [Act.put, List.setIfInBounds_toArray, List.set_cons_zero, List.set_cons_succ]
      refine wpAnyH_take (i := 4) (oi := ⟨some 34, _, _, _, _, _⟩) (v := ?_) rfl (by kernel_rfl) (by kernel_rfl) (by kernel_rfl) (fun _ _ _ h => h) (Or.inl ⟨by kernel_rfl, ?_⟩) (by assumption) ?_
      rotate_left
      · (intro w hSw; (try dsimp only at hSw); go_simp; (try (with_reducible rfl)))
      try simp only [Act.put, List.setIfInBounds_toArray, List.set_cons_zero, List.set_cons_succ]
      refine wpAnyH_take (i := 5) (oi := ⟨some 35, _, _, _, _, _⟩) (v := ?_) rfl (by kernel_rfl) (by kernel_rfl) (by kernel_rfl) (fun _ _ _ h => h) (Or.inl ⟨by kernel_rfl, ?_⟩) (by assumption) ?_
      rotate_left
      · (intro w hSw; (try dsimp only at hSw); go_simp; (try (with_reducible rfl)))
      try simp only [Act.put, List.setIfInBounds_toArray, List.set_cons_zero, List.set_cons_succ]
      refine wpAnyH_take (i := 6) (oi := ⟨some 36, _, _, _, _, _⟩) (v := ?_) rfl (by kernel_rfl) (by kernel_rfl) (by kernel_rfl) (fun _ _ _ h => h) (Or.inl ⟨by kernel_rfl, ?_⟩) (by assumption) ?_
      rotate_left
      · (intro w hSw; (try dsimp only at hSw); go_simp; (try (with_reducible rfl)))
      try simp only [Act.put, List.setIfInBounds_toArray, List.set_cons_zero, List.set_cons_succ]
      refine wpAnyH_take (i := 7) (oi := ⟨some 37, _, _, _, _, _⟩) (v := ?_) rfl (by kernel_rfl) (by kernel_rfl) (by kernel_rfl) (fun _ _ _ h => h) (Or.inl ⟨by kernel_rfl, ?_⟩) (by assumption) ?_
      rotate_left
      · (intro w hSw; (try dsimp only at hSw); go_simp; (try (with_reducible rfl)))
      try simp only [Act.put, List.setIfInBounds_toArray, List.set_cons_zero, List.set_cons_succ]
      refine wpAnyH_take (i := 8) (oi := ⟨some 38, _, _, _, _, _⟩) (v := ?_) rfl (by kernel_rfl) (by kernel_rfl) (by kernel_rfl) (fun _ _ _ h => h) (Or.inl ⟨by kernel_rfl, ?_⟩) (by assumption) ?_
      rotate_left
      · (intro w hSw; (try dsimp only at hSw); go_simp; (try (with_reducible rfl)))
      try simp only [Act.put, List.setIfInBounds_toArray, List.set_cons_zero, List.set_cons_succ]
      refine wpAnyH_take (i := 9) (oi := ⟨some 39, _, _, _, _, _⟩) (v := ?_) rfl (by kernel_rfl) (by kernel_rfl) (by kernel_rfl) (fun _ _ _ h => h) (Or.inl ⟨by kernel_rfl, ?_⟩) (by assumption) ?_
      rotate_left
      · (intro w hSw; (try dsimp only at hSw); go_simp; (try (with_reducible rfl)))
      try simp only [Act.put, List.setIfInBounds_toArray, List.set_cons_zero, List.set_cons_succ]
      refine wpAnyH_take (i := 10) (oi := ⟨some 40, _, _, _, _, _⟩) (v := ?_) rfl (by kernel_rfl) (by kernel_rfl) (by kernel_rfl) (fun _ _ _ h => h) (Or.inl ⟨by kernel_rfl, ?_⟩) (by assumption) ?_
      rotate_left
      · (intro w hSw; (try dsimp only at hSw); go_simp; (try (with_reducible rfl)))
      try simp only [Act.put, List.setIfInBounds_toArray, List.set_cons_zero, List.set_cons_succ]
      refine wpAnyH_take (i := 11) (oi := ⟨some 41, _, _, _, _, _⟩) (v := ?_) rfl (by kernel_rfl) (by kernel_rfl) (by kernel_rfl) (fun _ _ _ h => h) (Or.inl ⟨by kernel_rfl, ?_⟩) (by assumption) ?_
      rotate_left
      · (intro w hSw; (try dsimp only at hSw); go_simp; (try (with_reducible rfl)))
      try simp only [Act.put, List.setIfInBounds_toArray, List.set_cons_zero, List.set_cons_succ]
      refine wpAnyH_take (i := 12) (oi := ⟨some 42, _, _, _, _, _⟩) (v := ?_) rfl (by kernel_rfl) (by kernel_rfl) (by kernel_rfl) (fun _ _ _ h => h) (Or.inl ⟨by kernel_rfl, ?_⟩) (by assumption) ?_
      rotate_left
      · (intro w hSw; (try dsimp only at hSw); go_simp; (try (with_reducible rfl)))
      try simp only [Act.put, List.setIfInBounds_toArray, List.set_cons_zero, List.set_cons_succ]
      refine wpAnyH_take (i := 13) (oi := ⟨some 43, _, _, _, _, _⟩) (v := ?_) rfl (by kernel_rfl) (by kernel_rfl) (by kernel_rfl) (fun _ _ _ h => h) (Or.inl ⟨by kernel_rfl, ?_⟩) (by assumption) ?_
      rotate_left
      · (intro w hSw; (try dsimp only at hSw); go_simp; (try (with_reducible rfl)))
      try simp only [Act.put, List.setIfInBounds_toArray, List.set_cons_zero, List.set_cons_succ]
      refine wpAnyH_ready (rs := [14]) (by kernel_rfl) (by simp) ?_
      refine AllReadyH.cons (o := ⟨some 44, _, _, _, _, _⟩) rfl (fun K hK => ?_) AllReadyH.nil
      go_simp
      go_at_call 29
      refine KW.out.mono ?_
      rintro e wz ⟨rfl, dd, oz⟩
      have DZ := Lib.hid dd
      have OZ := Lib.hid (O.out.drew.trans oz)
      have BZ := Lib.hid (B.out.drew.only oz HNF.out)
      clear dd oz
      go_simp
      refine hK.out _ _ (BZ.out.cell_some (i := 0) rfl) (fun hHeld => ?_)
      try simp only [Act.put, List.setIfInBounds_toArray, List.set_cons_zero, List.set_cons_succ]
      refine wpAnyH_take (i := 15) (oi := ⟨some 8, _, _, _, _, _⟩) (v := ?_) rfl (by kernel_rfl) (by kernel_rfl) (by kernel_rfl) (fun _ _ _ h => h) (Or.inl ⟨by kernel_rfl, ?_⟩) (by assumption) ?_
      rotate_left
      · (intro w hSw; (try dsimp only at hSw); go_simp; (try (with_reducible rfl)))
      try simp only [Act.put, List.setIfInBounds_toArray, List.set_cons_zero, List.set_cons_succ]
      refine wpAnyH_done (by kernel_rfl) ?_ _
      by_cases hz : (xw4 x n (2 + 4 * id) T 3).2 = 0
      · have HZ := Lib.hid hz
        have hq : ((xw4 x n (2 + 4 * id) T 3).2 != 0) = false := by rw [hz]; rfl
        clear hz
        go_wp2_with fail
        go_roundw
        case rel => exact ⟨3, by omega, by first | rfl | simp, DZ, HZ, OZ, BZ⟩
        case measure => first | decide | simp [intOf]
      · have hs := HS.out 3 4 hz (by omega)
        have HSS := Lib.hid hs
        have hq : ((xw4 x n (2 + 4 * id) T 3).2 != 0) = true := by rw [bne_iff_ne]; exact hz
        clear hz hs
        go_wp2_with fail
        go_ret
        exact ⟨by first | rfl | (rw [HSS.out]; rfl), by first | exact DZ.out | (rw [HSS.out]; exact DZ.out), OZ.out⟩
    · have bd := HBX.out 3 (by omega)
      have KW := xwrite_any (DD.out.drew) (2 + 4 * (id : Int) + 3) (T.extract 192 256) (by rw [ByteArray.size_extract]; omega) bd.2.1 (by omega) bd.2.2.2 bd.2.2.1
      have h4 := H4.out 3 EZ.out
      rw [show ((2 + 4 * id : Nat) : Int) + ((3 : Nat) : Int) = 2 + 4 * (id : Int) + 3 from by omega, show T.extract (64 * 3) (64 * 3 + 64) = T.extract 192 256 from rfl] at h4
      rw [← h4] at KW
      unfold xp at KW
      have KW := Lib.hid KW
      clear h4 bd
      have y3 : IntKind.i64.wrap (2 + 4 * (id : Int) + 3) = 2 + 4 * (id : Int) + 3 := IntWalk.i64_in _ (by omega)
      have l1 : IntKind.i64.wrap 192 = 192 := rfl
      have l2 : IntKind.i64.wrap 256 = 256 := rfl
      go_wp2_with fail
      refine wp_region_held_drew (S := fun W' => W'.cell? ⟨w.heap.size, 0, none⟩ = some (.int .i64 (id : Nat))) (by kernel_rfl) (B.out.drew.cell_some (i := 0) rfl) (fun hHeld => ?_)
      refine wpAnyH_take (i := 0) (oi := ⟨some 30, _, _, _, _, _⟩) (v := ?_) rfl (by kernel_rfl) (by kernel_rfl) (by kernel_rfl) (fun _ _ _ h => h) (Or.inl ⟨by kernel_rfl, ?_⟩) (by assumption) ?_
      rotate_left
      · (intro w hSw; (try dsimp only at hSw); go_simp; (try (with_reducible rfl)))
      try simp only [Act.put, List.setIfInBounds_toArray, List.set_cons_zero, List.set_cons_succ]
      refine wpAnyH_take (i := 1) (oi := ⟨some 31, _, _, _, _, _⟩) (v := ?_) rfl (by kernel_rfl) (by kernel_rfl) (by kernel_rfl) (fun _ _ _ h => h) (Or.inl ⟨by kernel_rfl, ?_⟩) (by assumption) ?_
      rotate_left
      · (intro w hSw; (try dsimp only at hSw); go_simp; (try (with_reducible rfl)))
      try simp only [Act.put, List.setIfInBounds_toArray, List.set_cons_zero, List.set_cons_succ]
      refine wpAnyH_take (i := 2) (oi := ⟨some 32, _, _, _, _, _⟩) (v := ?_) rfl (by kernel_rfl) (by kernel_rfl) (by kernel_rfl) (fun _ _ _ h => h) (Or.inl ⟨by kernel_rfl, ?_⟩) (by assumption) ?_
      rotate_left
      · (intro w hSw; (try dsimp only at hSw); go_simp; (try (with_reducible rfl)))
      try simp only [Act.put, List.setIfInBounds_toArray, List.set_cons_zero, List.set_cons_succ]
      refine wpAnyH_take (i := 3) (oi := ⟨some 33, _, _, _, _, _⟩) (v := ?_) rfl (by kernel_rfl) (by kernel_rfl) (by kernel_rfl) (fun _ _ _ h => h) (Or.inl ⟨by kernel_rfl, ?_⟩) (by assumption) ?_
      rotate_left
      · (intro w hSw; (try dsimp only at hSw); go_simp; (try (with_reducible rfl)))
      try simp only [Act.put, List.setIfInBounds_toArray, List.set_cons_zero, List.set_cons_succ]
      refine wpAnyH_take (i := 4) (oi := ⟨some 34, _, _, _, _, _⟩) (v := ?_) rfl (by kernel_rfl) (by kernel_rfl) (by kernel_rfl) (fun _ _ _ h => h) (Or.inl ⟨by kernel_rfl, ?_⟩) (by assumption) ?_
      rotate_left
      · (intro w hSw; (try dsimp only at hSw); go_simp; (try (with_reducible rfl)))
      try simp only [Act.put, List.setIfInBounds_toArray, List.set_cons_zero, List.set_cons_succ]
      refine wpAnyH_take (i := 5) (oi := ⟨some 35, _, _, _, _, _⟩) (v := ?_) rfl (by kernel_rfl) (by kernel_rfl) (by kernel_rfl) (fun _ _ _ h => h) (Or.inl ⟨by kernel_rfl, ?_⟩) (by assumption) ?_
      rotate_left
      · (intro w hSw; (try dsimp only at hSw); go_simp; (try (with_reducible rfl)))
      try simp only [Act.put, List.setIfInBounds_toArray, List.set_cons_zero, List.set_cons_succ]
      refine wpAnyH_take (i := 6) (oi := ⟨some 36, _, _, _, _, _⟩) (v := ?_) rfl (by kernel_rfl) (by kernel_rfl) (by kernel_rfl) (fun _ _ _ h => h) (Or.inl ⟨by kernel_rfl, ?_⟩) (by assumption) ?_
      rotate_left
      · (intro w hSw; (try dsimp only at hSw); go_simp; (try (with_reducible rfl)))
      try simp only [Act.put, List.setIfInBounds_toArray, List.set_cons_zero, List.set_cons_succ]
      refine wpAnyH_take (i := 7) (oi := ⟨some 37, _, _, _, _, _⟩) (v := ?_) rfl (by kernel_rfl) (by kernel_rfl) (by kernel_rfl) (fun _ _ _ h => h) (Or.inl ⟨by kernel_rfl, ?_⟩) (by assumption) ?_
      rotate_left
      · (intro w hSw; (try dsimp only at hSw); go_simp; (try (with_reducible rfl)))
      try simp only [Act.put, List.setIfInBounds_toArray, List.set_cons_zero, List.set_cons_succ]
      refine wpAnyH_take (i := 8) (oi := ⟨some 38, _, _, _, _, _⟩) (v := ?_) rfl (by kernel_rfl) (by kernel_rfl) (by kernel_rfl) (fun _ _ _ h => h) (Or.inl ⟨by kernel_rfl, ?_⟩) (by assumption) ?_
      rotate_left
      · (intro w hSw; (try dsimp only at hSw); go_simp; (try (with_reducible rfl)))
      try simp only [Act.put, List.setIfInBounds_toArray, List.set_cons_zero, List.set_cons_succ]
      refine wpAnyH_take (i := 9) (oi := ⟨some 39, _, _, _, _, _⟩) (v := ?_) rfl (by kernel_rfl) (by kernel_rfl) (by kernel_rfl) (fun _ _ _ h => h) (Or.inl ⟨by kernel_rfl, ?_⟩) (by assumption) ?_
      rotate_left
      · (intro w hSw; (try dsimp only at hSw); go_simp; (try (with_reducible rfl)))
      try simp only [Act.put, List.setIfInBounds_toArray, List.set_cons_zero, List.set_cons_succ]
      refine wpAnyH_take (i := 10) (oi := ⟨some 40, _, _, _, _, _⟩) (v := ?_) rfl (by kernel_rfl) (by kernel_rfl) (by kernel_rfl) (fun _ _ _ h => h) (Or.inl ⟨by kernel_rfl, ?_⟩) (by assumption) ?_
      rotate_left
      · (intro w hSw; (try dsimp only at hSw); go_simp; (try (with_reducible rfl)))
      try simp only [Act.put, List.setIfInBounds_toArray, List.set_cons_zero, List.set_cons_succ]
      refine wpAnyH_take (i := 11) (oi := ⟨some 41, _, _, _, _, _⟩) (v := ?_) rfl (by kernel_rfl) (by kernel_rfl) (by kernel_rfl) (fun _ _ _ h => h) (Or.inl ⟨by kernel_rfl, ?_⟩) (by assumption) ?_
      rotate_left
      · (intro w hSw; (try dsimp only at hSw); go_simp; (try (with_reducible rfl)))
      try simp only [Act.put, List.setIfInBounds_toArray, List.set_cons_zero, List.set_cons_succ]
      refine wpAnyH_take (i := 12) (oi := ⟨some 42, _, _, _, _, _⟩) (v := ?_) rfl (by kernel_rfl) (by kernel_rfl) (by kernel_rfl) (fun _ _ _ h => h) (Or.inl ⟨by kernel_rfl, ?_⟩) (by assumption) ?_
      rotate_left
      · (intro w hSw; (try dsimp only at hSw); go_simp; (try (with_reducible rfl)))
      try simp only [Act.put, List.setIfInBounds_toArray, List.set_cons_zero, List.set_cons_succ]
      refine wpAnyH_take (i := 13) (oi := ⟨some 43, _, _, _, _, _⟩) (v := ?_) rfl (by kernel_rfl) (by kernel_rfl) (by kernel_rfl) (fun _ _ _ h => h) (Or.inl ⟨by kernel_rfl, ?_⟩) (by assumption) ?_
      rotate_left
      · (intro w hSw; (try dsimp only at hSw); go_simp; (try (with_reducible rfl)))
      try simp only [Act.put, List.setIfInBounds_toArray, List.set_cons_zero, List.set_cons_succ]
      refine wpAnyH_ready (rs := [14]) (by kernel_rfl) (by simp) ?_
      refine AllReadyH.cons (o := ⟨some 44, _, _, _, _, _⟩) rfl (fun K hK => ?_) AllReadyH.nil
      go_simp
      go_at_call 29
      refine KW.out.mono ?_
      rintro e wz ⟨rfl, dd, oz⟩
      have DZ := Lib.hid dd
      have OZ := Lib.hid (O.out.drew.trans oz)
      have BZ := Lib.hid (B.out.drew.only oz HNF.out)
      clear dd oz
      go_simp
      refine hK.out _ _ (BZ.out.cell_some (i := 0) rfl) (fun hHeld => ?_)
      try simp only [Act.put, List.setIfInBounds_toArray, List.set_cons_zero, List.set_cons_succ]
      refine wpAnyH_take (i := 15) (oi := ⟨some 8, _, _, _, _, _⟩) (v := ?_) rfl (by kernel_rfl) (by kernel_rfl) (by kernel_rfl) (fun _ _ _ h => h) (Or.inl ⟨by kernel_rfl, ?_⟩) (by assumption) ?_
      rotate_left
      · (intro w hSw; (try dsimp only at hSw); go_simp; (try (with_reducible rfl)))
      try simp only [Act.put, List.setIfInBounds_toArray, List.set_cons_zero, List.set_cons_succ]
      refine wpAnyH_done (by kernel_rfl) ?_ _
      by_cases hz : (xw4 x n (2 + 4 * id) T 4).2 = 0
      · have HZ := Lib.hid hz
        have hq : ((xw4 x n (2 + 4 * id) T 4).2 != 0) = false := by rw [hz]; rfl
        clear hz
        go_wp2_with fail
        go_roundw
        case rel => exact ⟨4, by omega, by first | rfl | simp, DZ, HZ, OZ, BZ⟩
        case measure => first | decide | simp [intOf]
      · have hs := HS.out 4 4 hz (by omega)
        have HSS := Lib.hid hs
        have hq : ((xw4 x n (2 + 4 * id) T 4).2 != 0) = true := by rw [bne_iff_ne]; exact hz
        clear hz hs
        go_wp2_with fail
        go_ret
        exact ⟨by first | rfl | (rw [HSS.out]; rfl), by first | exact DZ.out | (rw [HSS.out]; exact DZ.out), OZ.out⟩
    · go_wp2_with fail
      go_ret
      exact ⟨by rw [EZ.out]; rfl, DD.out, O.out⟩
theorem rpwrite_any {w : World} {M : XL} {n : Nat} {d : D} {x : X} (h : XAt w M n x) (r : Rel n d x) (id ep kd : Int) (s : ByteArray) (hid : id ≤ 9223372036854775807) (hc : d.calls ≤ 999990) (hr : d.armed ≤ 9223372036854775807) :
    Calls Try.prog 22 #[xp M.b, pageV id ep kd s] w fun e w' => e = .returned (.int .i64 (xpwriteF x n id ep kd s.data.toList).2) ∧ XAt w' M n (xpwriteF x n id ep kd s.data.toList).1 ∧ Only M.fp w w' := by
  by_cases hp : (putF id ep kd s.data.toList).2 = 0
  · by_cases hm : (manyF n : Int) ≤ id
    · exact (rpwrite_no h id ep kd s hid (.inr hm)).mono fun e w' hx => ⟨hx.1, hx.2.1, .of_below hx.2.2⟩
    · have hok := (okP_iff id ep kd).1 (putF_len hp).2
      obtain ⟨a, rfl⟩ := Int.eq_ofNat_of_zero_le hok.1
      have e1 : xpwriteF x n a ep kd s.data.toList = xw4 x n (2 + 4 * a) ⟨(putF a ep kd s.data.toList).1.toArray⟩ 4 := by
        unfold xpwriteF
        rw [if_neg (by simpa using hp), if_neg hm]; rfl
      rw [e1]
      exact rpwrite_yes h r a ep kd s hp (by omega) hc hr
  · exact (rpwrite_no h id ep kd s hid (.inl hp)).mono fun e w' hx => ⟨hx.1, hx.2.1, .of_below hx.2.2⟩
end Go.Proofs.Ytmofbgcanehdoaa.Pg
