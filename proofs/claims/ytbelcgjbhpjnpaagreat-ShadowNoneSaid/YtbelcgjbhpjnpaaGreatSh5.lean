/- shadow by its contracts: Drop, Read, Count. -/
import Derived.Test.YtbelcgjbhpjnpaaGreatSh4
namespace Go.Proofs.YtbelcgjbhpjnpaaGreat.Sh
open Go.RowKit Pk Dk Pg
attribute [local go_sem ↓] Go.wp_at_zero Go.wp_at_succ
def badF (e : Int) : Int := if e = 13 then 13 else 14
set_option maxHeartbeats 1000000 in
theorem bad_any (e : Int) (w : World) :
    Calls Tryz.prog 91 #[.int .i64 e] w fun r w' => r = .returned (.int .i64 (badF e)) ∧ w = w' := by
  have HB := Lib.hid (rfl : badF e = badF e)
  obtain ⟨b, hb⟩ : ∃ b, badF e = b := ⟨_, rfl⟩
  rw [hb]
  unfold badF at hb
  by_cases h : e = 13
  · rw [if_pos h] at hb
    subst hb h
    go_enter Tryz.func91, Tryz.ntmps91
    go_wp2_with fail
    go_ret
    exact ⟨by first | rfl | simp, rfl⟩
  · rw [if_neg h] at hb
    subst hb
    have hq : (e == 13) = false := by rw [beq_eq_false_iff_ne]; exact h
    go_enter Tryz.func91, Tryz.ntmps91
    go_wp2_with fail
    go_ret
    exact ⟨by first | rfl | simp, rfl⟩
def C.dropF (c : C) (l : Int) : C × Int :=
  if c.atF l ≠ 0 then (c, c.atF l) else ({ c with m := (Fm.leaveF c.m (c.table.getD l.toNat 0)).1, table := c.table.set l.toNat (-1) }, 0)
def C.readF (c : C) (n : Nat) (l : Int) : List UInt8 × Int :=
  if c.atF l ≠ 0 then ([], c.atF l)
  else if (preadF c.d n (c.table.getD l.toNat 0)).2 ≠ 0 then ([], badF (preadF c.d n (c.table.getD l.toNat 0)).2)
  else ((preadF c.d n (c.table.getD l.toNat 0)).1.s, 0)
theorem atF_ok {c : C} {l : Int} (h : c.atF l = 0) : c.broken = false ∧ 0 ≤ l ∧ l < c.table.length ∧ 0 ≤ c.table.getD l.toNat 0 := by
  unfold C.atF at h
  split at h
  · simp at h
  · rename_i hb
    split at h
    · rename_i hh
      unfold C.hasF at hh
      simp only [Bool.and_eq_true, decide_eq_true_eq] at hh
      exact ⟨by simpa using hb, hh.1.1, hh.1.2, hh.2⟩
    · simp at h
set_option maxRecDepth 100000 in
set_option maxHeartbeats 2000000 in
theorem drop_any {w : World} {x : X} {n : Nat} {c : C} (h : At w x n c) (l : Int) :
    Calls Tryz.prog 33 #[sp x.b, .int .i64 l] w fun e w' => e = .returned (.int .i64 (c.dropF l).2) ∧ At w' x n (c.dropF l).1 ∧ Only x.fp w w' := by
  have KA := at_any h l
  have HH := Lib.hid h
  obtain ⟨R, hR⟩ : ∃ R, c.dropF l = R := ⟨_, rfl⟩
  rw [hR]
  unfold C.dropF at hR
  by_cases h1 : c.atF l = 0
  · rw [if_neg (by simpa using h1)] at hR
    obtain ⟨_, h2, h3, h4⟩ := atF_ok h1
    rw [h1] at KA
    obtain ⟨k, rfl⟩ := Int.eq_ofNat_of_zero_le h2
    have hk : k < c.table.length := by omega
    rw [show ((k : Nat) : Int).toNat = k from by omega] at hR h4
    obtain ⟨g, cp, hv, ck⟩ := h.tk k hk
    have f1 := h.f1
    have f2 := h.f2
    rw [hv] at f2
    have KL := Fm.leave_any h.hm.drew (c.table.getD k 0)
    have HM := Lib.hid (fun (w' : World) (m' : List Int) (mm : Fm.MapAt w' x.mb x.mg m') (ow : Only [x.mg] w.drew w') => At.map h.drew mm ow)
    have hg : g ∈ ownS x.tv := by rw [hv]; simp [ownS]; have := (h.ht.val); obtain ⟨A, cc, e1, e2⟩ := this; rw [hv] at e1; injection e1 with _ _ e3; omega
    have HP := Lib.hid (show ∀ w', Only [x.mg] w.drew w' → (w'.cell? ⟨x.b, 1, none⟩ = some (Fm.mp x.mb) ∧ w'.cell? ⟨x.b, 2, none⟩ = some (.slice (some ⟨g, 0, none⟩) c.table.length cp) ∧ w'.cell? ⟨g, k, none⟩ = some (.int .i64 (c.table.getD k 0))) from fun w' ho => by
      have B := h.hb.drew.only ho (fun hm => by simp at hm; exact h.hb.ne_ h.hm.hg (by decide) hm)
      have T := h.ht.drew.only ho (fun y hy hm => by simp at hm; subst hm; exact h.n1 hy)
      obtain ⟨g', cp', rest, hv', BB, _, _⟩ := T.form (by omega)
      rw [hv] at hv'
      injection hv' with e1 e2 e3
      injection e1 with e1
      injection e1 with e1
      subst e1
      refine ⟨B.cell_some (i := 1) rfl, ?_, BB.cell_some (by rw [List.getElem?_toArray, List.getElem?_append_left (by simpa using hk), nvs'_get _ _ hk])⟩
      rw [← hv]; exact B.cell_some (i := 2) rfl)
    have HK := Lib.hid (show w.drew.cell? ⟨x.b, 1, none⟩ = some (Fm.mp x.mb) ∧ w.drew.cell? ⟨x.b, 2, none⟩ = some (.slice (some ⟨g, 0, none⟩) c.table.length cp) ∧ w.drew.cell? ⟨g, k, none⟩ = some (.int .i64 (c.table.getD k 0)) from ⟨f1, f2, ck⟩)
    have HKL := Lib.hid hk
    have HX := Lib.hid (show ∀ w' m', At w' x n { c with m := m' } → w'.cell? ⟨g, k, none⟩ = some (.int .i64 (c.table.getD k 0)) ∧ w'.frozen? ⟨g, k, none⟩ = false ∧ At (w'.setCell ⟨g, k, none⟩ (.int .i64 (-1))) x n { c with m := m', table := c.table.set k (-1) } ∧ Only x.fp w' (w'.setCell ⟨g, k, none⟩ (.int .i64 (-1))) from fun w' m' hh => by
      obtain ⟨g', cp', hv', ck', z', A', o'⟩ := hh.setT k hk (-1)
      rw [hv] at hv'
      injection hv' with e1 e2 e3
      injection e1 with e1
      injection e1 with e1
      subst e1
      exact ⟨ck', z', A', o'⟩)
    have hkI : (k : Int) < (c.table.length : Int) := by omega
    subst hR
    generalize c.table.getD k 0 = pid at *
    generalize (Fm.leaveF c.m pid).2 = le at *
    generalize (Fm.leaveF c.m pid).1 = m2 at *
    have HQ := Lib.hid hv
    clear h h1 f1 f2 ck hv hg h4
    generalize c.table.length = tn at *
    have KA := Lib.hid KA
    unfold sp Fm.mp at *
    have KL := Lib.hid KL
    go_enter Tryz.func33, Tryz.ntmps33
    go_wp2_with fail
    refine KA.out.mono ?_
    rintro e w1 ⟨rfl, rfl⟩
    go_wp2_with fail
    refine wp_region_held_drew (S := fun W' => W'.cell? ⟨x.b, 1, none⟩ = some (.pointer (some ⟨x.mb, 0, none⟩)) ∧ W'.cell? ⟨x.b, 2, none⟩ = some (.slice (some ⟨g, 0, none⟩) tn cp) ∧ W'.cell? ⟨g, k, none⟩ = some (.int .i64 pid)) (by kernel_rfl) (HK.out) (fun hHeld => ?_)
    refine wpAnyH_take (i := 0) (oi := ⟨some 12, _, _, _, _, _⟩) (v := ?_) rfl (by kernel_rfl) (by kernel_rfl) (by kernel_rfl) (fun _ _ _ h => h) (Or.inl ⟨by kernel_rfl, ?_⟩) (by assumption) ?_
    rotate_left
    · (intro w hSw; (try dsimp only at hSw); go_simp; (try (with_reducible rfl)))
    try simp only [Act.put, List.setIfInBounds_toArray, List.set_cons_zero, List.set_cons_succ]
    refine wpAnyH_take (i := 1) (oi := ⟨some 13, _, _, _, _, _⟩) (v := ?_) rfl (by kernel_rfl) (by kernel_rfl) (by kernel_rfl) (fun _ _ _ h => h) (Or.inl ⟨by kernel_rfl, ?_⟩) (by assumption) ?_
    rotate_left
    · (intro w hSw; (try dsimp only at hSw); go_simp; (try (with_reducible rfl)))
    try simp only [Act.put, List.setIfInBounds_toArray, List.set_cons_zero, List.set_cons_succ]
    refine wpAnyH_take (i := 2) (oi := ⟨some 14, _, _, _, _, _⟩) (v := ?_) rfl (by kernel_rfl) (by kernel_rfl) (by kernel_rfl) (fun _ _ _ h => h) (Or.inl ⟨by kernel_rfl, ?_⟩) (by assumption) ?_
    rotate_left
    · (intro w hSw; (try dsimp only at hSw); go_simp; (try (with_reducible rfl)))
    try simp only [Act.put, List.setIfInBounds_toArray, List.set_cons_zero, List.set_cons_succ]
    refine wpAnyH_take (i := 3) (oi := ⟨some 15, _, _, _, _, _⟩) (v := ?_) rfl (by kernel_rfl) (by kernel_rfl) (by kernel_rfl) (fun _ _ _ h => h) (Or.inl ⟨by kernel_rfl, ?_⟩) (by assumption) ?_
    rotate_left
    · (intro w hSw; (try dsimp only at hSw); go_simp; (try (with_reducible rfl)))
    try simp only [Act.put, List.setIfInBounds_toArray, List.set_cons_zero, List.set_cons_succ]
    refine wpAnyH_take (i := 4) (oi := ⟨some 16, _, _, _, _, _⟩) (v := ?_) rfl (by kernel_rfl) (by kernel_rfl) (by kernel_rfl) (fun _ _ _ h => h) (Or.inl ⟨by kernel_rfl, ?_⟩) (by assumption) ?_
    rotate_left
    · (intro w hSw; (try dsimp only at hSw); go_simp; (try (with_reducible rfl)))
    try simp only [Act.put, List.setIfInBounds_toArray, List.set_cons_zero, List.set_cons_succ]
    refine wpAnyH_take (i := 5) (oi := ⟨some 17, _, _, _, _, _⟩) (v := ?_) rfl (by kernel_rfl) (by kernel_rfl) (by kernel_rfl) (fun _ _ _ h => h) (Or.inl ⟨by kernel_rfl, ?_⟩) (by assumption) ?_
    rotate_left
    · (intro w hSw; (try dsimp only at hSw); go_simp; (try (with_reducible rfl)))
    try simp only [Act.put, List.setIfInBounds_toArray, List.set_cons_zero, List.set_cons_succ]
    refine wpAnyH_take (i := 6) (oi := ⟨some 18, _, _, _, _, _⟩) (v := ?_) rfl (by kernel_rfl) (by kernel_rfl) (by kernel_rfl) (fun _ _ _ h => h) (Or.inl ⟨by kernel_rfl, ?_⟩) (by assumption) ?_
    rotate_left
    · (intro w hSw; (try dsimp only at hSw); go_simp; (try (with_reducible rfl)))
    try simp only [Act.put, List.setIfInBounds_toArray, List.set_cons_zero, List.set_cons_succ]
    refine wpAnyH_take (i := 7) (oi := ⟨some 19, _, _, _, _, _⟩) (v := ?_) rfl (by kernel_rfl) (by kernel_rfl) (by kernel_rfl) (fun _ _ _ h => h) (Or.inl ⟨by kernel_rfl, ?_⟩) (by assumption) ?_
    rotate_left
    · (intro w hSw; (try dsimp only at hSw); go_simp; (try (with_reducible rfl)))
    try simp only [Act.put, List.setIfInBounds_toArray, List.set_cons_zero, List.set_cons_succ]
    refine wpAnyH_take (i := 8) (oi := ⟨some 20, _, _, _, _, _⟩) (v := ?_) rfl (by kernel_rfl) (by kernel_rfl) (by kernel_rfl) (fun _ _ _ h => h) (Or.inl ⟨by kernel_rfl, ?_⟩) (by assumption) ?_
    rotate_left
    · (intro w hSw; (try dsimp only at hSw); go_simp; (try (with_reducible rfl)))
    try simp only [Act.put, List.setIfInBounds_toArray, List.set_cons_zero, List.set_cons_succ]
    refine wpAnyH_take (i := 9) (oi := ⟨some 21, _, _, _, _, _⟩) (v := ?_) rfl (by kernel_rfl) (by kernel_rfl) (by kernel_rfl) (fun _ _ _ h => h) (Or.inl ⟨by kernel_rfl, ?_⟩) (by assumption) ?_
    rotate_left
    · (intro w hSw; (try dsimp only at hSw); go_simp; (try (with_reducible rfl)))
    try simp only [Act.put, List.setIfInBounds_toArray, List.set_cons_zero, List.set_cons_succ]
    refine wpAnyH_take (i := 10) (oi := ⟨some 22, _, _, _, _, _⟩) (v := ?_) rfl (by kernel_rfl) (by kernel_rfl) (by kernel_rfl) (fun _ _ _ h => h) (Or.inl ⟨by kernel_rfl, ?_⟩) (by assumption) ?_
    rotate_left
    · (intro w hSw; (try dsimp only at hSw); go_simp; (try (with_reducible rfl)))
    try simp only [Act.put, List.setIfInBounds_toArray, List.set_cons_zero, List.set_cons_succ]
    refine wpAnyH_ready (rs := [11]) (by kernel_rfl) (by simp) ?_
    refine AllReadyH.cons (o := ⟨some 23, _, _, _, _, _⟩) rfl (fun K hK => ?_) AllReadyH.nil
    go_simp
    go_at_call 101
    refine KL.out.mono ?_
    rintro e w1 ⟨rfl, mm, ow⟩
    have A1 := Lib.hid (HM.out _ _ mm ow)
    have OW := Lib.hid ow
    have HX1 := Lib.hid (HX.out _ _ A1.out)
    have f2x := (HP.out _ ow).2.1
    have ckx := HX1.out.1
    have zkx := HX1.out.2.1
    have OX := Lib.hid (((Only.refl _ w).drew.trans (ow.mono (S' := x.fp) (fun g hg _ => mg_fp x g hg))).trans HX1.out.2.2.2)
    clear mm ow
    go_simp
    refine hK.out _ _ (HP.out _ OW.out) (fun hHeld => ?_)
    try simp only [Act.put, List.setIfInBounds_toArray, List.set_cons_zero, List.set_cons_succ]
    refine wpAnyH_done (by kernel_rfl) ?_ _
    go_wp2_with fail
    go_ret
    exact ⟨by first | rfl | simp, HX1.out.2.2.1, OX.out⟩
  · rw [if_pos h1] at hR
    subst hR
    have hq : (c.atF l != 0) = true := by rw [bne_iff_ne]; exact h1
    have KA := Lib.hid KA
    generalize c.atF l = er at *
    clear h h1
    unfold sp at *
    go_enter Tryz.func33, Tryz.ntmps33
    go_wp2_with fail
    refine KA.out.mono ?_
    rintro e w1 ⟨rfl, rfl⟩
    go_wp2_with fail
    go_ret
    exact ⟨by first | rfl | simp, HH.out, Only.refl _ _⟩
end Go.Proofs.YtbelcgjbhpjnpaaGreat.Sh
