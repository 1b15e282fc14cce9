/- shadow by its contracts: at, put, fresh. -/
import Derived.Test.YtbelcgjbhpjnpaaGreatSh
import Derived.Deep.RegionHeld3
namespace Go.Proofs.YtbelcgjbhpjnpaaGreat.Sh
open Go.RowKit Pk Dk Pg
attribute [local go_sem ↓] Go.wp_at_zero Go.wp_at_succ
set_option maxRecDepth 100000 in
set_option maxHeartbeats 2000000 in
theorem at_any {w : World} {x : X} {n : Nat} {c : C} (h : At w x n c) (l : Int) :
    Calls Tryz.prog 89 #[sp x.b, .int .i64 l] w fun e w' => e = .returned (.int .i64 (c.atF l)) ∧ w = w' := by
  have K := works_any h
  have f2 := h.f2
  obtain ⟨TA, tc, htv, htc⟩ := h.ht.val
  rw [htv] at f2
  have HR := Lib.hid (show ∀ r, c.atF l = r → c.atF l = r from fun r h => h)
  have tl := h.tl
  by_cases hb : c.broken = true
  · have hw : c.worksF = 13 := by unfold C.worksF; rw [if_pos hb]
    have HA := Lib.hid (show c.atF l = 13 from by unfold C.atF; rw [if_pos hb])
    rw [hw] at K
    have K := Lib.hid K
    clear h hb hw
    generalize c.atF l = r at *
    unfold sp at *
    go_enter Tryz.func89, Tryz.ntmps89
    go_wp2_with fail
    refine K.out.mono ?_
    rintro e w1 ⟨rfl, rfl⟩
    go_wp2_with fail
    go_ret
    exact ⟨by rw [HA.out]; first | rfl | simp, rfl⟩
  · have hw : c.worksF = 0 := by unfold C.worksF; rw [if_neg hb]
    rw [hw] at K
    have K := Lib.hid K
    by_cases h1 : l < 0
    · have HA := Lib.hid (show c.atF l = 3 from by unfold C.atF C.hasF; rw [if_neg hb]; simp; omega)
      clear h hb hw
      generalize c.atF l = r at *
      unfold sp at *
      go_enter Tryz.func89, Tryz.ntmps89
      go_wp2_with fail
      refine K.out.mono ?_
      rintro e w1 ⟨rfl, rfl⟩
      go_wp2_with fail
      go_ret
      exact ⟨by rw [HA.out]; first | rfl | simp, rfl⟩
    · obtain ⟨k, rfl⟩ := Int.eq_ofNat_of_zero_le (show 0 ≤ l by omega)
      by_cases h2 : k < c.table.length
      · obtain ⟨g, cp, hv, hk⟩ := h.tk k h2
        rw [hv] at htv
        injection htv with ht1 ht2 ht3
        subst ht1 ht3
        obtain ⟨v, hv0⟩ : ∃ v, c.table.getD k 0 = v := ⟨_, rfl⟩
        rw [hv0] at hk
        have h2I : ¬ (c.table.length : Int) ≤ (k : Int) := by omega
        have h2J : (k : Int) < (c.table.length : Int) := by omega
        by_cases h3 : v < 0
        · have ht : c.table.getD ((k : Nat) : Int).toNat 0 = v := by rw [show ((k : Nat) : Int).toNat = k from by omega]; exact hv0
          have HA := Lib.hid (show c.atF k = 3 from by unfold C.atF C.hasF; rw [if_neg hb, ht, if_neg (by simp only [Bool.and_eq_true, decide_eq_true_eq]; omega)])
          clear ht
          clear h hb hw hv hv0
          generalize c.atF k = r at *
          generalize c.table.length = tn at *
          unfold sp at *
          go_enter Tryz.func89, Tryz.ntmps89
          go_wp2_with fail
          refine K.out.mono ?_
          rintro e w1 ⟨rfl, rfl⟩
          go_wp2_with fail
          go_ret
          exact ⟨by rw [HA.out]; first | rfl | simp, rfl⟩
        · have HA := Lib.hid (show c.atF k = 0 from by
            have ht : c.table.getD ((k : Nat) : Int).toNat 0 = v := by rw [show ((k : Nat) : Int).toNat = k from by omega]; exact hv0
            have hh : c.hasF k = true := by unfold C.hasF; rw [ht]; simp only [Bool.and_eq_true, decide_eq_true_eq]; omega
            unfold C.atF; rw [if_neg hb, if_pos hh])
          clear h hb hw hv hv0
          generalize c.atF k = r at *
          generalize c.table.length = tn at *
          unfold sp at *
          go_enter Tryz.func89, Tryz.ntmps89
          go_wp2_with fail
          refine K.out.mono ?_
          rintro e w1 ⟨rfl, rfl⟩
          go_wp2_with fail
          go_ret
          exact ⟨by rw [HA.out]; first | rfl | simp, rfl⟩
      · have HA := Lib.hid (show c.atF k = 3 from by unfold C.atF C.hasF; rw [if_neg hb]; simp; omega)
        have h2I : (c.table.length : Int) ≤ (k : Int) := by omega
        clear h hb hw
        generalize c.atF k = r at *
        generalize c.table.length = tn at *
        unfold sp at *
        go_enter Tryz.func89, Tryz.ntmps89
        go_wp2_with fail
        refine K.out.mono ?_
        rintro e w1 ⟨rfl, rfl⟩
        go_wp2_with fail
        go_ret
        exact ⟨by rw [HA.out]; first | rfl | simp, rfl⟩
set_option maxRecDepth 100000 in
set_option maxHeartbeats 2000000 in
theorem put_any {w : World} {x : X} {n : Nat} {c : C} (h : At w x n c) (id kind : Int) (s : ByteArray) (hid : id ≤ 9223372036854775807) (hep : 0 ≤ c.ep ∧ c.ep ≤ 1099511627776) (hc : c.d.calls ≤ 999999990) (hr : c.d.armed ≤ 9223372036854775807) :
    Calls Tryz.prog 100 #[sp x.b, .int .i64 id, .int .i64 kind, .string s] w fun e w' => e = .returned (.int .i64 (pwriteF c.d n id (c.ep + 1) kind s.data.toList).2) ∧ At w' x n { c with d := (pwriteF c.d n id (c.ep + 1) kind s.data.toList).1 } ∧ Only x.L.fp w w' := by
  have KPW := pwrite_any (w := w.drew) h.hd.drew id (c.ep + 1) kind s hid hc hr
  have HD := Lib.hid (fun (w' : World) (hd : DiskAt w' x.L n (pwriteF c.d n id (c.ep + 1) kind s.data.toList).1) (ho : Only x.L.fp w.drew w') => At.disk h.drew hd ho)
  have f0 := h.f0
  have f5 := h.f5
  have q1 : IntKind.i64.wrap (c.ep + 1) = c.ep + 1 := IntWalk.i64_in _ (by omega)
  have HK := Lib.hid (show w.drew.cell? ⟨x.b, 0, none⟩ = some (dp x.L.b) ∧ w.drew.cell? ⟨x.b, 5, none⟩ = some (.int .i64 c.ep) from ⟨f0, f5⟩)
  have HP := Lib.hid (show ∀ w', Only x.L.fp w.drew w' → (w'.cell? ⟨x.b, 0, none⟩ = some (dp x.L.b) ∧ w'.cell? ⟨x.b, 5, none⟩ = some (.int .i64 c.ep)) from fun w' ho => by
    have B := h.hb.drew.only ho (fun hm => by
      simp only [Loc.fp, List.mem_cons, List.not_mem_nil, or_false] at hm
      rcases hm with hm | hm | hm | hm
      · exact h.hb.ne_ h.hd.hb (by decide) hm
      · exact h.hb.ne_ h.hd.hN (by decide) hm
      · exact h.hb.ne_ h.hd.hO (by decide) hm
      · exact h.hb.ne_ h.hd.hL (by decide) hm)
    exact ⟨B.cell_some (i := 0) rfl, B.cell_some (i := 5) rfl⟩)
  clear h
  generalize (pwriteF c.d n id (c.ep + 1) kind s.data.toList).2 = er at *
  generalize (pwriteF c.d n id (c.ep + 1) kind s.data.toList).1 = d2 at *
  generalize c.ep = ep at *
  unfold sp dp pageV at *
  have KPW := Lib.hid KPW
  go_enter Tryz.func100, Tryz.ntmps100
  go_wp2_with fail
  refine wp_region_held_drew (S := fun W' => W'.cell? ⟨x.b, 0, none⟩ = some (.pointer (some ⟨x.L.b, 0, none⟩)) ∧ W'.cell? ⟨x.b, 5, none⟩ = some (.int .i64 ep)) (by kernel_rfl) (HK.out) (fun hHeld => ?_)
  refine wpAnyH_take (i := 0) (oi := ⟨some 9, _, _, _, _, _⟩) (v := ?_) rfl (by kernel_rfl) (by kernel_rfl) (by kernel_rfl) (fun _ _ _ h => h) (Or.inl ⟨by kernel_rfl, ?_⟩) (by assumption) ?_
  rotate_left
  · (intro w hSw; (try dsimp only at hSw); go_simp; (try (with_reducible rfl)))
  try simp only [Act.put, List.setIfInBounds_toArray, List.set_cons_zero, List.set_cons_succ]
  refine wpAnyH_take (i := 1) (oi := ⟨some 10, _, _, _, _, _⟩) (v := ?_) rfl (by kernel_rfl) (by kernel_rfl) (by kernel_rfl) (fun _ _ _ h => h) (Or.inl ⟨by kernel_rfl, ?_⟩) (by assumption) ?_
  rotate_left
  · (intro w hSw; (try dsimp only at hSw); go_simp; (try (with_reducible rfl)))
  try simp only [Act.put, List.setIfInBounds_toArray, List.set_cons_zero, List.set_cons_succ]
  refine wpAnyH_take (i := 2) (oi := ⟨some 11, _, _, _, _, _⟩) (v := ?_) rfl (by kernel_rfl) (by kernel_rfl) (by kernel_rfl) (fun _ _ _ h => h) (Or.inl ⟨by kernel_rfl, ?_⟩) (by assumption) ?_
  rotate_left
  · (intro w hSw; (try dsimp only at hSw); go_simp; (try (with_reducible rfl)))
  try simp only [Act.put, List.setIfInBounds_toArray, List.set_cons_zero, List.set_cons_succ]
  refine wpAnyH_take (i := 3) (oi := ⟨some 12, _, _, _, _, _⟩) (v := ?_) rfl (by kernel_rfl) (by kernel_rfl) (by kernel_rfl) (fun _ _ _ h => h) (Or.inl ⟨by kernel_rfl, ?_⟩) (by assumption) ?_
  rotate_left
  · (intro w hSw; (try dsimp only at hSw); go_simp; (try (with_reducible rfl)))
  try simp only [Act.put, List.setIfInBounds_toArray, List.set_cons_zero, List.set_cons_succ]
  refine wpAnyH_take (i := 4) (oi := ⟨some 13, _, _, _, _, _⟩) (v := ?_) rfl (by kernel_rfl) (by kernel_rfl) (by kernel_rfl) (fun _ _ _ h => h) (Or.inl ⟨by kernel_rfl, ?_⟩) (by assumption) ?_
  rotate_left
  · (intro w hSw; (try dsimp only at hSw); go_simp; (try (with_reducible rfl)))
  try simp only [Act.put, List.setIfInBounds_toArray, List.set_cons_zero, List.set_cons_succ]
  refine wpAnyH_take (i := 5) (oi := ⟨some 14, _, _, _, _, _⟩) (v := ?_) rfl (by kernel_rfl) (by kernel_rfl) (by kernel_rfl) (fun _ _ _ h => h) (Or.inl ⟨by kernel_rfl, ?_⟩) (by assumption) ?_
  rotate_left
  · (intro w hSw; (try dsimp only at hSw); go_simp; (try (with_reducible rfl)))
  try simp only [Act.put, List.setIfInBounds_toArray, List.set_cons_zero, List.set_cons_succ]
  refine wpAnyH_take (i := 6) (oi := ⟨some 15, _, _, _, _, _⟩) (v := ?_) rfl (by kernel_rfl) (by kernel_rfl) (by kernel_rfl) (fun _ _ _ h => h) (Or.inl ⟨by kernel_rfl, ?_⟩) (by assumption) ?_
  rotate_left
  · (intro w hSw; (try dsimp only at hSw); go_simp; (try (with_reducible rfl)))
  try simp only [Act.put, List.setIfInBounds_toArray, List.set_cons_zero, List.set_cons_succ]
  refine wpAnyH_take (i := 7) (oi := ⟨some 16, _, _, _, _, _⟩) (v := ?_) rfl (by kernel_rfl) (by kernel_rfl) (by kernel_rfl) (fun _ _ _ h => h) (Or.inl ⟨by kernel_rfl, ?_⟩) (by assumption) ?_
  rotate_left
  · (intro w hSw; (try dsimp only at hSw); go_simp; (try (with_reducible rfl)))
  try simp only [Act.put, List.setIfInBounds_toArray, List.set_cons_zero, List.set_cons_succ]
  refine wpAnyH_take (i := 8) (oi := ⟨some 17, _, _, _, _, _⟩) (v := ?_) rfl (by kernel_rfl) (by kernel_rfl) (by kernel_rfl) (fun _ _ _ h => h) (Or.inl ⟨by kernel_rfl, ?_⟩) (by assumption) ?_
  rotate_left
  · (intro w hSw; (try dsimp only at hSw); go_simp; (try (with_reducible rfl)))
  try simp only [Act.put, List.setIfInBounds_toArray, List.set_cons_zero, List.set_cons_succ]
  refine wpAnyH_take (i := 9) (oi := ⟨some 18, _, _, _, _, _⟩) (v := ?_) rfl (by kernel_rfl) (by kernel_rfl) (by kernel_rfl) (fun _ _ _ h => h) (Or.inl ⟨by kernel_rfl, ?_⟩) (by assumption) ?_
  rotate_left
  · (intro w hSw; (try dsimp only at hSw); go_simp; (try (with_reducible rfl)))
  try simp only [Act.put, List.setIfInBounds_toArray, List.set_cons_zero, List.set_cons_succ]
  refine wpAnyH_take (i := 10) (oi := ⟨some 19, _, _, _, _, _⟩) (v := ?_) rfl (by kernel_rfl) (by kernel_rfl) (by kernel_rfl) (fun _ _ _ h => h) (Or.inl ⟨by kernel_rfl, ?_⟩) (by assumption) ?_
  rotate_left
  · (intro w hSw; (try dsimp only at hSw); go_simp; (try (with_reducible rfl)))
  try simp only [Act.put, List.setIfInBounds_toArray, List.set_cons_zero, List.set_cons_succ]
  refine wpAnyH_take (i := 11) (oi := ⟨some 20, _, _, _, _, _⟩) (v := ?_) rfl (by kernel_rfl) (by kernel_rfl) (by kernel_rfl) (fun _ _ _ h => h) (Or.inl ⟨by kernel_rfl, ?_⟩) (by assumption) ?_
  rotate_left
  · (intro w hSw; (try dsimp only at hSw); go_simp; (try (with_reducible rfl)))
  try simp only [Act.put, List.setIfInBounds_toArray, List.set_cons_zero, List.set_cons_succ]
  refine wpAnyH_take (i := 12) (oi := ⟨some 21, _, _, _, _, _⟩) (v := ?_) rfl (by kernel_rfl) (by kernel_rfl) (by kernel_rfl) (fun _ _ _ h => h) (Or.inl ⟨by kernel_rfl, ?_⟩) (by assumption) ?_
  rotate_left
  · (intro w hSw; (try dsimp only at hSw); go_simp; (try (with_reducible rfl)))
  try simp only [Act.put, List.setIfInBounds_toArray, List.set_cons_zero, List.set_cons_succ]
  refine wpAnyH_ready (rs := [13]) (by kernel_rfl) (by simp) ?_
  refine AllReadyH.cons (o := ⟨some 22, _, _, _, _, _⟩) rfl (fun K hK => ?_) AllReadyH.nil
  go_simp
  go_at_call 162
  refine KPW.out.mono ?_
  rintro e w1 ⟨rfl, dd, ow⟩
  have DV := Lib.hid dd
  have OW := Lib.hid ow
  clear dd ow
  go_simp
  refine hK.out _ _ (HP.out _ OW.out) (fun hHeld => ?_)
  try simp only [Act.put, List.setIfInBounds_toArray, List.set_cons_zero, List.set_cons_succ]
  refine wpAnyH_take (i := 14) (oi := ⟨some 8, _, _, _, _, _⟩) (v := ?_) rfl (by kernel_rfl) (by kernel_rfl) (by kernel_rfl) (fun _ _ _ h => h) (Or.inl ⟨by kernel_rfl, ?_⟩) (by assumption) ?_
  rotate_left
  · (intro w hSw; (try dsimp only at hSw); go_simp; (try (with_reducible rfl)))
  try simp only [Act.put, List.setIfInBounds_toArray, List.set_cons_zero, List.set_cons_succ]
  refine wpAnyH_done (by kernel_rfl) ?_ _
  go_wp2_with fail
  go_ret
  exact ⟨by first | rfl | simp, HD.out _ DV.out OW.out, (Only.refl _ w).drew.trans OW.out⟩
/-- a physical page taken, and a payload written there -/
def C.freshF (c : C) (n : Nat) (p : List UInt8) : C × Int × Int :=
  if (Fm.takeF c.m).2.2 ≠ 0 then ({ c with m := (Fm.takeF c.m).1 }, 0, (Fm.takeF c.m).2.2)
  else if (pwriteF c.d n (Fm.takeF c.m).2.1 (c.ep + 1) 2 p).2 ≠ 0 then ({ c with m := (Fm.leaveF (Fm.takeF c.m).1 (Fm.takeF c.m).2.1).1, d := (pwriteF c.d n (Fm.takeF c.m).2.1 (c.ep + 1) 2 p).1 }, 0, (pwriteF c.d n (Fm.takeF c.m).2.1 (c.ep + 1) 2 p).2)
  else ({ c with m := (Fm.takeF c.m).1, d := (pwriteF c.d n (Fm.takeF c.m).2.1 (c.ep + 1) 2 p).1 }, (Fm.takeF c.m).2.1, 0)
theorem takeF_le (m : List Int) (h : m.length ≤ 1024) : (Fm.takeF m).2.1 ≤ 1024 ∧ 0 ≤ (Fm.takeF m).2.1 := by
  unfold Fm.takeF
  split
  · exact ⟨by show (Fm.firstF m 0 : Int) ≤ _; omega, by show (0 : Int) ≤ (Fm.firstF m 0 : Int); omega⟩
  · exact ⟨by show (0 : Int) ≤ _; omega, by show (0 : Int) ≤ 0; omega⟩
theorem mg_fp (x : X) : ∀ g ∈ [x.mg], g ∈ x.fp := by intro g hg; simp at hg; subst hg; simp [X.fp]
theorem L_fp (x : X) : ∀ g ∈ x.L.fp, g ∈ x.fp := by intro g hg; simp [X.fp, hg]
set_option maxRecDepth 100000 in
set_option maxHeartbeats 2000000 in
theorem fresh_any {w : World} {x : X} {n : Nat} {c : C} (h : At w x n c) (s : ByteArray) (hep : 0 ≤ c.ep ∧ c.ep ≤ 1099511627776) (hc : c.d.calls ≤ 999999990) (hr : c.d.armed ≤ 9223372036854775807) :
    Calls Tryz.prog 88 #[sp x.b, .string s] w fun e w' => e = .returned (.tuple #[.int .i64 (c.freshF n s.data.toList).2.1, .int .i64 (c.freshF n s.data.toList).2.2]) ∧ At w' x n (c.freshF n s.data.toList).1 ∧ Only x.fp w w' := by
  have KT := Fm.take_any h.hm
  have HT := Lib.hid (fun (w' : World) (hm : Fm.MapAt w' x.mb x.mg (Fm.takeF c.m).1) (ho : Only [x.mg] w w') => At.map h hm ho)
  have hml : c.m.length ≤ 1024 := h.hm.hl
  have hid := takeF_le c.m hml
  have f1 := h.f1
  obtain ⟨R, hR⟩ : ∃ R, c.freshF n s.data.toList = R := ⟨_, rfl⟩
  rw [hR]
  unfold C.freshF at hR
  by_cases h1 : (Fm.takeF c.m).2.2 = 0
  · rw [if_neg (by simpa using h1)] at hR
    rw [h1] at KT
    generalize (Fm.takeF c.m).2.1 = id at *
    generalize (Fm.takeF c.m).1 = m1 at *
    have KP := Lib.hid (fun (w' : World) (hh : At w' x n { c with m := m1 }) => put_any hh id 2 s (by omega) hep hc hr)
    dsimp only at KP
    by_cases h2 : (pwriteF c.d n id (c.ep + 1) 2 s.data.toList).2 = 0
    · rw [if_neg (by simpa using h2)] at hR
      rw [h2] at KP
      subst hR
      generalize (pwriteF c.d n id (c.ep + 1) 2 s.data.toList).1 = d1 at *
      have KT := Lib.hid KT
      clear h h1 h2
      unfold sp Fm.mp at *
      go_enter Tryz.func88, Tryz.ntmps88
      go_wp2_with fail
      refine KT.out.mono ?_
      rintro e w1 ⟨rfl, mm, ow⟩
      have A1 := Lib.hid (HT.out _ mm ow)
      have O1 := Lib.hid ow
      clear mm ow
      go_wp2_with fail
      refine (KP.out _ A1.out).mono ?_
      rintro e w2 ⟨rfl, aa, ow⟩
      have A2 := Lib.hid aa
      have O2 := Lib.hid ((O1.out.mono (fun g hg _ => mg_fp x g hg)).trans (ow.mono (fun g hg _ => L_fp x g hg)))
      clear aa ow
      go_wp2_with fail
      go_ret2
      exact ⟨by first | rfl | simp, A2.out, O2.out⟩
    · rw [if_pos h2] at hR
      subst hR
      have hq : ((pwriteF c.d n id (c.ep + 1) 2 s.data.toList).2 != 0) = true := by rw [bne_iff_ne]; exact h2
      generalize (pwriteF c.d n id (c.ep + 1) 2 s.data.toList).1 = d1 at *
      generalize (pwriteF c.d n id (c.ep + 1) 2 s.data.toList).2 = er at *
      have KT := Lib.hid KT
      clear h h1 h2
      unfold sp Fm.mp at *
      go_enter Tryz.func88, Tryz.ntmps88
      go_wp2_with fail
      refine KT.out.mono ?_
      rintro e w1 ⟨rfl, mm, ow⟩
      have A1 := Lib.hid (HT.out _ mm ow)
      have O1 := Lib.hid ow
      clear mm ow
      go_wp2_with fail
      refine (KP.out _ A1.out).mono ?_
      rintro e w2 ⟨rfl, aa, ow⟩
      have A2 := Lib.hid aa
      have O2 := Lib.hid ((O1.out.mono (fun g hg _ => mg_fp x g hg)).trans (ow.mono (fun g hg _ => L_fp x g hg)))
      have f1' := aa.f1
      have KL := Fm.leave_any aa.hm id
      dsimp only at KL
      have KL := Lib.hid KL
      unfold Fm.mp at *
      clear aa ow
      go_wp2_with fail
      refine KL.out.mono ?_
      rintro e w3 ⟨rfl, mm, ow⟩
      have A3 := Lib.hid (A2.out.map mm ow)
      have O3 := Lib.hid (O2.out.trans (ow.mono (fun g hg _ => mg_fp x g hg)))
      clear mm ow
      go_wp2_with fail
      go_ret2
      exact ⟨by first | rfl | simp, A3.out, O3.out⟩
  · rw [if_pos h1] at hR
    subst hR
    have hq : ((Fm.takeF c.m).2.2 != 0) = true := by rw [bne_iff_ne]; exact h1
    generalize (Fm.takeF c.m).2.1 = id at *
    generalize (Fm.takeF c.m).2.2 = er at *
    generalize (Fm.takeF c.m).1 = m1 at *
    have KT := Lib.hid KT
    clear h h1
    unfold sp Fm.mp at *
    go_enter Tryz.func88, Tryz.ntmps88
    go_wp2_with fail
    refine KT.out.mono ?_
    rintro e w1 ⟨rfl, mm, ow⟩
    have A1 := Lib.hid (HT.out _ mm ow)
    have O1 := Lib.hid (ow.mono (S' := x.fp) (fun g hg _ => mg_fp x g hg))
    clear mm ow
    go_wp2_with fail
    go_ret2
    exact ⟨by first | rfl | simp, A1.out, O1.out⟩
end Go.Proofs.YtbelcgjbhpjnpaaGreat.Sh
