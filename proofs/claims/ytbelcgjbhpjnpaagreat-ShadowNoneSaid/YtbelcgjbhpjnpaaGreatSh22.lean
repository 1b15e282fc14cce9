/- pool by its contracts: Drop. -/
import Derived.Test.YtbelcgjbhpjnpaaGreatSh21
namespace Go.Proofs.YtbelcgjbhpjnpaaGreat.Sh
open Go.RowKit Pk Dk Pg
attribute [local go_sem ↓] Go.wp_at_zero Go.wp_at_succ
theorem AtP.same {w w' : World} {y : Y} {n : Nat} {s : PS} {c' : C} (h : AtP w y n s) (A : At w' y.x n c') (o : Only y.x.fp w w') : AtP w' y n { s with c := c' } ∧ Only y.fp w w' :=
  ⟨⟨h.hp.only o h.n1, h.hf.only o (fun g hg => by simp [ownB] at hg; subst hg; exact h.n2), A, h.n1, h.n2, h.l1, h.l2, h.lh⟩, o.mono (fun g hg _ => by simp [Y.fp, hg])⟩
set_option maxRecDepth 100000 in
set_option maxHeartbeats 2000000 in
theorem pdrop_held {w : World} {y : Y} {n : Nat} {s : PS} (h : AtP w y n s) (p : Int) (k : Nat) {f : Fr} (hk : findF s.l p = (k : Nat)) (hf : s.l[k]? = some f) (hh : 0 < f.held) :
    Calls Tryz.prog 58 #[pp y.pb, .int .i64 p] w fun e w' => e = .returned (.int .i64 16) ∧ Below w.heap.size w w' := by
  have KF := Lib.hid (find_any h p)
  rw [hk] at KF
  have HB := Lib.hid (fun w' (hb : Below w.heap.size w w') => h.below hb)
  have hkl : k < s.l.length := (List.getElem?_eq_some_iff.1 hf).1
  have hkI : (k : Int) < (s.l.length : Int) := by omega
  have hk0 : (0 : Int) ≤ (k : Int) := by omega
  have HF := Lib.hid hf
  have l2 := h.l2
  clear h hk hf
  unfold pp at *
  go_enter Tryz.func58, Tryz.ntmps58
  go_wp2_with fail
  refine KF.out.mono ?_
  rintro e w1 ⟨rfl, hb1⟩
  have O1 := Lib.hid hb1
  have A1 := Lib.hid (HB.out w1 hb1)
  have p0 := A1.out.p0
  have p1 := A1.out.p1
  obtain ⟨_, _, c2, _, _⟩ := A1.out.frs k f HF.out
  clear hb1
  go_wp2_with fail
  go_ret
  exact ⟨by first | rfl | simp, O1.out⟩
set_option maxRecDepth 100000 in
set_option maxHeartbeats 2000000 in
theorem pdrop_out {w : World} {y : Y} {n : Nat} {s : PS} (h : AtP w y n s) (p : Int) (hk : findF s.l p = -1) :
    Calls Tryz.prog 58 #[pp y.pb, .int .i64 p] w fun e w' => e = .returned (.int .i64 (s.c.dropF p).2) ∧ AtP w' y n { s with c := (s.c.dropF p).1 } ∧ Only y.fp w w' := by
  have KF := Lib.hid (find_any h p)
  rw [hk] at KF
  have HB := Lib.hid (fun w' (hb : Below w.heap.size w w') => h.below hb)
  have KD := Lib.hid (fun w' (hb : Below w.heap.size w w') => drop_any (h.below hb).hs p)
  have HP := Lib.hid (fun w1 (hb : Below w.heap.size w w1) w2 (A : At w2 y.x n (s.c.dropF p).1) (o : Only y.x.fp w1 w2) => (h.below hb).same A o)
  generalize s.c.dropF p = R at *
  obtain ⟨R1, R2⟩ := R
  dsimp only at *
  clear h hk
  unfold sp at *
  unfold pp at *
  go_enter Tryz.func58, Tryz.ntmps58
  go_wp2_with fail
  refine KF.out.mono ?_
  rintro e w1 ⟨rfl, hb1⟩
  have O1 := Lib.hid hb1
  have A1 := Lib.hid (HB.out w1 hb1)
  have p0 := A1.out.p0
  have p1 := A1.out.p1
  clear hb1
  go_wp2_with fail
  refine (KD.out w1 O1.out).mono ?_
  rintro e w2 ⟨rfl, A2, o2⟩
  have A3 := Lib.hid (HP.out w1 O1.out w2 A2 o2)
  clear A2 o2
  by_cases h0 : R2 = 0
  · subst h0
    go_wp2_with fail
    go_ret
    exact ⟨by first | rfl | (simp; done) | (simp [h0]; done) | simp_all, A3.out.1, (Only.of_below (S := y.fp) O1.out).trans A3.out.2⟩
  · have hq : (R2 != 0) = true := by rw [bne_iff_ne]; exact h0
    have hq2 : (R2 == 0) = false := by rw [beq_eq_false_iff_ne]; exact h0
    go_wp2_with fail
    go_ret
    exact ⟨by first | rfl | (simp; done) | (simp [h0]; done) | simp_all, A3.out.1, (Only.of_below (S := y.fp) O1.out).trans A3.out.2⟩
theorem AtP.setNil {w : World} {y : Y} {n : Nat} {s : PS} (h : AtP w y n s) (k : Nat) {f : Fr} (hf : s.l[k]? = some f) :
    w.frozen? ⟨y.fg, k * 5, none⟩ = false ∧ w.frozen? ⟨y.fg, k * 5 + 1, none⟩ = false ∧ w.frozen? ⟨y.fg, k * 5 + 2, none⟩ = false ∧ w.frozen? ⟨y.fg, k * 5 + 3, none⟩ = false ∧ w.frozen? ⟨y.fg, k * 5 + 4, none⟩ = false ∧
    AtP (((((w.setCell ⟨y.fg, k * 5, none⟩ (.int .i64 (-1))).setCell ⟨y.fg, k * 5 + 1, none⟩ (.string ⟨#[]⟩)).setCell ⟨y.fg, k * 5 + 2, none⟩ (.int .i64 0)).setCell ⟨y.fg, k * 5 + 3, none⟩ (.bool false)).setCell ⟨y.fg, k * 5 + 4, none⟩ (.bool false)) y n { s with l := s.l.set k Fr.nil } ∧
    Only y.fp w (((((w.setCell ⟨y.fg, k * 5, none⟩ (.int .i64 (-1))).setCell ⟨y.fg, k * 5 + 1, none⟩ (.string ⟨#[]⟩)).setCell ⟨y.fg, k * 5 + 2, none⟩ (.int .i64 0)).setCell ⟨y.fg, k * 5 + 3, none⟩ (.bool false)).setCell ⟨y.fg, k * 5 + 4, none⟩ (.bool false)) := by
  have hkl : k < s.l.length := (List.getElem?_eq_some_iff.1 hf).1
  obtain ⟨z0, B0, q0⟩ := h.setF k 0 (by omega) { f with page := -1 } (.int .i64 (-1)) hf rfl
  rw [Nat.add_zero] at z0 B0 q0
  have g0 : (s.l.set k { f with page := -1 })[k]? = some { f with page := -1 } := by rw [List.getElem?_set_self hkl]
  obtain ⟨_, B1, q1⟩ := B0.setF k 1 (by omega) { f with page := -1, pay := ⟨#[]⟩ } (.string ⟨#[]⟩) g0 rfl
  simp only [List.set_set] at B1
  have g1 : (s.l.set k { f with page := -1, pay := ⟨#[]⟩ })[k]? = some { f with page := -1, pay := ⟨#[]⟩ } := by rw [List.getElem?_set_self hkl]
  obtain ⟨_, B2, q2⟩ := B1.setF k 2 (by omega) { f with page := -1, pay := ⟨#[]⟩, held := 0 } (.int .i64 0) g1 rfl
  simp only [List.set_set] at B2
  have g2 : (s.l.set k { f with page := -1, pay := ⟨#[]⟩, held := 0 })[k]? = some { f with page := -1, pay := ⟨#[]⟩, held := 0 } := by rw [List.getElem?_set_self hkl]
  obtain ⟨_, B3, q3⟩ := B2.setF k 3 (by omega) { f with page := -1, pay := ⟨#[]⟩, held := 0, dirty := false } (.bool false) g2 rfl
  simp only [List.set_set] at B3
  have g3 : (s.l.set k { f with page := -1, pay := ⟨#[]⟩, held := 0, dirty := false })[k]? = some { f with page := -1, pay := ⟨#[]⟩, held := 0, dirty := false } := by rw [List.getElem?_set_self hkl]
  obtain ⟨_, B4, q4⟩ := B3.setF k 4 (by omega) Fr.nil (.bool false) g3 rfl
  simp only [List.set_set] at B4
  obtain ⟨rest, B, hr, _, _⟩ := h.hf.blk
  have hl := frc_length s.l
  have fz : ∀ j, j < 5 → w.frozen? ⟨y.fg, k * 5 + j, none⟩ = false := fun j hj => B.frozen _ (by simp; omega)
  exact ⟨fz 0 (by omega), fz 1 (by omega), fz 2 (by omega), fz 3 (by omega), fz 4 (by omega), B4, (((q0.trans q1).trans q2).trans q3).trans q4⟩
set_option maxRecDepth 100000 in
set_option maxHeartbeats 2000000 in
theorem pdrop_in {w : World} {y : Y} {n : Nat} {s : PS} (h : AtP w y n s) (p : Int) (k : Nat) {f : Fr} (hk : findF s.l p = (k : Nat)) (hf : s.l[k]? = some f) (hh : f.held = 0) :
    Calls Tryz.prog 58 #[pp y.pb, .int .i64 p] w fun e w' => e = .returned (.int .i64 (s.c.dropF p).2) ∧ AtP w' y n (if (s.c.dropF p).2 = 0 then { s with c := (s.c.dropF p).1, l := s.l.set k Fr.nil } else { s with c := (s.c.dropF p).1 }) ∧ Only y.fp w w' := by
  have KF := Lib.hid (find_any h p)
  rw [hk] at KF
  have KE := Lib.hid empty_any
  unfold Fr.nil Fr.agg at KE
  have HB := Lib.hid (fun w' (hb : Below w.heap.size w w') => h.below hb)
  have hkl : k < s.l.length := (List.getElem?_eq_some_iff.1 hf).1
  have hkI : (k : Int) < (s.l.length : Int) := by omega
  have hk0 : (0 : Int) ≤ (k : Int) := by omega
  have HF := Lib.hid hf
  have KD := Lib.hid (fun w' (hb : Below w.heap.size w w') => drop_any (h.below hb).hs p)
  have HP := Lib.hid (fun w1 (hb : Below w.heap.size w w1) w2 (A : At w2 y.x n (s.c.dropF p).1) (o : Only y.x.fp w1 w2) => (h.below hb).same A o)
  have l2 := h.l2
  generalize s.c.dropF p = R at *
  obtain ⟨R1, R2⟩ := R
  dsimp only at *
  clear h hk hf
  unfold sp at *
  by_cases h0 : R2 = 0
  · subst h0
    rw [if_pos rfl]
    unfold pp at *
    go_enter Tryz.func58, Tryz.ntmps58
    go_wp2_with fail
    refine KF.out.mono ?_
    rintro e w1 ⟨rfl, hb1⟩
    have O1 := Lib.hid hb1
    have A1 := Lib.hid (HB.out w1 hb1)
    have p0 := A1.out.p0
    have p1 := A1.out.p1
    obtain ⟨_, _, c2, _, _⟩ := A1.out.frs k f HF.out
    rw [hh] at c2
    clear hb1 hh
    go_wp2_with fail
    refine (KD.out w1 O1.out).mono ?_
    rintro e w2 ⟨rfl, A2, o2⟩
    have A3 := Lib.hid (HP.out w1 O1.out w2 A2 o2)
    clear A2 o2 p0 p1 c2
    have AD := Lib.hid (A3.out.1.drew)
    have OD := Lib.hid ((((Only.refl y.fp w).trans (Only.of_below O1.out)).trans A3.out.2).drew)
    have P1D := Lib.hid AD.out.p1
    clear A3
    go_wp2_with fail
    refine wp_region_held_drew (S := fun W' => W'.cell? ⟨y.pb, 1, none⟩ = some (.slice (some ⟨y.fg, 0, none⟩) s.l.length y.cp)) (by kernel_rfl) (P1D.out) (fun hHeld => ?_)
    refine wpAnyH_take (i := 0) (oi := ⟨some 39, _, _, _, _, _⟩) (v := ?_) rfl (by kernel_rfl) (by kernel_rfl) (by kernel_rfl) (fun _ _ _ h => h) (Or.inl ⟨by kernel_rfl, ?_⟩) (by assumption) ?_
    rotate_left
    · (intro w hSw; (try dsimp only at hSw); go_simp; (try (with_reducible rfl)))
    try simp only [Act.put, List.setIfInBounds_toArray, List.set_cons_zero, List.set_cons_succ]
    refine wpAnyH_take (i := 1) (oi := ⟨some 40, _, _, _, _, _⟩) (v := ?_) rfl (by kernel_rfl) (by kernel_rfl) (by kernel_rfl) (fun _ _ _ h => h) (Or.inl ⟨by kernel_rfl, ?_⟩) (by assumption) ?_
    rotate_left
    · (intro w hSw; (try dsimp only at hSw); go_simp; (try (with_reducible rfl)))
    try simp only [Act.put, List.setIfInBounds_toArray, List.set_cons_zero, List.set_cons_succ]
    refine wpAnyH_take (i := 2) (oi := ⟨some 41, _, _, _, _, _⟩) (v := ?_) rfl (by kernel_rfl) (by kernel_rfl) (by kernel_rfl) (fun _ _ _ h => h) (Or.inl ⟨by kernel_rfl, ?_⟩) (by assumption) ?_
    rotate_left
    · (intro w hSw; (try dsimp only at hSw); go_simp; (try (with_reducible rfl)))
    try simp only [Act.put, List.setIfInBounds_toArray, List.set_cons_zero, List.set_cons_succ]
    refine wpAnyH_take (i := 3) (oi := ⟨some 42, _, _, _, _, _⟩) (v := ?_) rfl (by kernel_rfl) (by kernel_rfl) (by kernel_rfl) (fun _ _ _ h => h) (Or.inl ⟨by kernel_rfl, ?_⟩) (by assumption) ?_
    rotate_left
    · (intro w hSw; (try dsimp only at hSw); go_simp; (try (with_reducible rfl)))
    try simp only [Act.put, List.setIfInBounds_toArray, List.set_cons_zero, List.set_cons_succ]
    refine wpAnyH_take (i := 4) (oi := ⟨some 43, _, _, _, _, _⟩) (v := ?_) rfl (by kernel_rfl) (by kernel_rfl) (by kernel_rfl) (fun _ _ _ h => h) (Or.inl ⟨by kernel_rfl, ?_⟩) (by assumption) ?_
    rotate_left
    · (intro w hSw; (try dsimp only at hSw); go_simp; (try (with_reducible rfl)))
    try simp only [Act.put, List.setIfInBounds_toArray, List.set_cons_zero, List.set_cons_succ]
    refine wpAnyH_ready (rs := [5]) (by kernel_rfl) (by simp) ?_
    refine AllReadyH.cons (o := ⟨some 44, _, _, _, _, _⟩) rfl (fun K hK => ?_) AllReadyH.nil
    go_simp
    go_at_call 126
    refine (KE.out _).mono ?_
    rintro e w6 ⟨rfl, hb6⟩
    have A6 := Lib.hid (AD.out.below hb6)
    have O6 := Lib.hid (OD.out.trans (Only.of_below (S := y.fp) hb6))
    have p1y := A6.out.p1
    clear hb6
    refine hK.out _ _ (p1y) (fun hHeld => ?_)
    try simp only [Act.put, List.setIfInBounds_toArray, List.set_cons_zero, List.set_cons_succ]
    refine wpAnyH_take (i := 6) (oi := ⟨some 45, _, _, _, _, _⟩) (v := ?_) rfl (by kernel_rfl) (by kernel_rfl) (by kernel_rfl) (fun _ _ _ h => h) (Or.inl ⟨by kernel_rfl, ?_⟩) (by assumption) ?_
    rotate_left
    · (intro w hSw; (try dsimp only at hSw); go_simp; (try (with_reducible rfl)))
    try simp only [Act.put, List.setIfInBounds_toArray, List.set_cons_zero, List.set_cons_succ]
    refine wpAnyH_ready (rs := [7]) (by kernel_rfl) (by simp) ?_
    refine AllReadyH.cons (o := ⟨none, _, _, _, _, _⟩) rfl (fun K hK => ?_) AllReadyH.nil
    go_simp
    have p1x := A6.out.p1
    have l2x := A6.out.l2
    obtain ⟨c0, c1, c2, c3, c4⟩ := A6.out.frs k f HF.out
    obtain ⟨z0, z1, z2, z3, z4, B4, q4⟩ := A6.out.setNil k HF.out
    have AZ := Lib.hid B4
    have OZ := Lib.hid (O6.out.trans q4)
    clear B4 q4
    go_simp
    refine hK.out _ _ (by have := AZ.out.p1; simpa using this) (fun hHeld => ?_)
    try simp only [Act.put, List.setIfInBounds_toArray, List.set_cons_zero, List.set_cons_succ]
    refine wpAnyH_done (by kernel_rfl) ?_ _
    go_wp2_with fail
    go_ret
    exact ⟨by first | rfl | simp, AZ.out, OZ.out⟩
  · have hq : (R2 != 0) = true := by rw [bne_iff_ne]; exact h0
    have hq2 : (R2 == 0) = false := by rw [beq_eq_false_iff_ne]; exact h0
    rw [if_neg h0]
    unfold pp at *
    go_enter Tryz.func58, Tryz.ntmps58
    go_wp2_with fail
    refine KF.out.mono ?_
    rintro e w1 ⟨rfl, hb1⟩
    have O1 := Lib.hid hb1
    have A1 := Lib.hid (HB.out w1 hb1)
    have p0 := A1.out.p0
    have p1 := A1.out.p1
    obtain ⟨_, _, c2, _, _⟩ := A1.out.frs k f HF.out
    rw [hh] at c2
    clear hb1 hh
    go_wp2_with fail
    refine (KD.out w1 O1.out).mono ?_
    rintro e w2 ⟨rfl, A2, o2⟩
    have A3 := Lib.hid (HP.out w1 O1.out w2 A2 o2)
    clear A2 o2
    go_wp2_with fail
    go_ret
    exact ⟨by first | rfl | simp, A3.out.1, (Only.of_below (S := y.fp) O1.out).trans A3.out.2⟩
end Go.Proofs.YtbelcgjbhpjnpaaGreat.Sh
