/- pool by its contracts: victim. -/
import Derived.Test.YtbelcgjbhpjnpaaGreatSh13
namespace Go.Proofs.YtbelcgjbhpjnpaaGreat.Sh
open Go.RowKit Pk Dk Pg
attribute [local go_sem ↓] Go.wp_at_zero Go.wp_at_succ
set_option maxHeartbeats 1000000 in
theorem vict1_any (f : Fr) (w : World) (b : Bool) (hb : b = decide (f.page < 0)) :
    Calls Tryz.prog 175 #[f.agg] w fun e w' => e = .returned (.bool b) ∧ Below w.heap.size w w' := by
  have O0 := Lib.hid ((Below.refl w.heap.size w).alloc (Nat.le_refl _) (.cells #[.int .i64 f.page, .string f.pay, .int .i64 f.held, .bool f.dirty, .bool f.used] 150))
  have B0 := Blk.new w 150 #[.int .i64 f.page, .string f.pay, .int .i64 f.held, .bool f.dirty, .bool f.used]
  have c0 := B0.cell_some (i := 0) rfl
  have HB := Lib.hid hb
  clear hb B0
  unfold Fr.agg
  go_enter Tryz.func175, Tryz.ntmps175
  go_wp2_with fail
  go_ret
  exact ⟨by rw [HB.out]; first | rfl | simp, O0.out⟩
set_option maxRecDepth 100000 in
set_option maxHeartbeats 2000000 in
theorem ixvict_any {w : World} (g n c : Nat) (l : List Fr) (h : FrsAt w g l) (hl : l.length = n) (hn : n ≤ 1000000) :
    Calls Tryz.prog 173 #[.slice (some ⟨g, 0, none⟩) n c, .func (Fn.func 175) #[] #[]] w fun e w' => e = .returned (.int .i64 (ixF (fun f => decide (f.page < 0)) l)) ∧ Below w.heap.size w w' := by
  have HL := Lib.hid hl
  have H0 := Lib.hid h
  clear h hl
  go_enter Tryz.func173, Tryz.ntmps173
  go_wp2_with fail
  go_loopw [8] (fun iv wr => ∃ i : Nat, i ≤ n ∧ iv = .int .i64 i ∧ Hid (∀ (j : Nat) (a : Fr), j < i → l[j]? = some a → decide (a.page < 0) = false) ∧ Hid (Below w.heap.size w wr)) (fun iv _ => n - (intOf iv).toNat)
  case atStart => exact ⟨0, Nat.zero_le _, rfl, Lib.hid (fun j a hj => absurd hj (Nat.not_lt_zero j)), Lib.hid (Below.refl _ _)⟩
  case round =>
    obtain ⟨i, hi, rfl, HA, HB⟩ := hrel
    by_cases h : i < n
    · have hf : l[i]? = some (l[i]'(by have := HL.out; omega)) := List.getElem?_eq_getElem _
      generalize (l[i]'(by have := HL.out; omega)) = f at hf
      obtain ⟨c0, c1, c2, c3, c4⟩ := (H0.out.below HB.out) i f hf
      have KF := Lib.hid (vict1_any f wr _ rfl)
      have HF := Lib.hid hf
      clear hf
      unfold Fr.agg at KF
      obtain ⟨b, hb⟩ : ∃ b, decide (f.page < 0) = b := ⟨_, rfl⟩
      rw [hb] at KF
      have HD := Lib.hid hb
      clear hb
      go_wp2_with fail
      refine KF.out.mono ?_
      rintro e w1 ⟨rfl, hb1⟩
      have HB1 := Lib.hid (bstep HB.out hb1)
      clear hb1
      cases b with
      | true =>
        have he := Lib.hid (ixF_hit (b := fun f => decide (f.page < 0)) HF.out HD.out HA.out)
        go_wp2_with fail
        go_ret
        exact ⟨by rw [he.out]; rfl, HB1.out⟩
      | false =>
        go_wp2_with fail
        go_roundw
        case rel =>
          refine ⟨i + 1, by omega, by go_num, Lib.hid (fun j a hj ha => ?_), HB1⟩
          rcases Nat.lt_succ_iff_lt_or_eq.1 hj with hj | rfl
          · exact HA.out j a hj ha
          · have := HF.out.symm.trans ha
            injection this with this
            subst this
            exact HD.out
        case measure => simp [intOf]; omega
    · have he := Lib.hid (ixF_miss (b := fun f => decide (f.page < 0)) (l := l) (fun j a ha => HA.out j a (by have := (List.getElem?_eq_some_iff.1 ha).1; have := HL.out; omega) ha))
      go_wp2_with fail
      go_ret
      exact ⟨by rw [he.out]; rfl, HB.out⟩
set_option maxRecDepth 100000 in
set_option maxHeartbeats 2000000 in
theorem next_any {w : World} {y : Y} {n q : Nat} {s : PS} (h : AtP w y n s) (hq : w.cell? ⟨q, 0, none⟩ = some (pp y.pb)) (hqp : q ≠ y.pb) :
    Calls Tryz.prog 176 #[.pointer (some ⟨q, 0, none⟩)] w fun e w' => e = .returned (.pointer (some ⟨y.fg, s.hand * 5, none⟩)) ∧ AtP w' y n { s with hand := (s.hand + 1) % s.l.length } ∧ Only y.fp w w' := by
  have p1 := h.p1
  have p2 := h.p2
  have l1 := h.l1
  have l2 := h.l2
  have lh := h.lh
  obtain ⟨m, hm⟩ : ∃ m, (s.hand + 1) % s.l.length = m := ⟨_, rfl⟩
  have hml : m < s.l.length := by rw [← hm]; exact Nat.mod_lt _ (by omega)
  have hmI : ((s.hand : Int) + 1).tmod (s.l.length : Int) = (m : Int) := by rw [← hm]; rw [show ((s.hand : Int) + 1) = ((s.hand + 1 : Nat) : Int) from by omega]; exact (Int.ofNat_tmod _ _).symm
  have hlI : (s.hand : Int) < (s.l.length : Int) := by omega
  have m1 : IntKind.i64.wrap ((s.hand : Int) + 1) = (s.hand : Int) + 1 := IntWalk.i64_in _ (by omega)
  have m2 : IntKind.i64.wrap (m : Int) = (m : Int) := IntWalk.i64_in _ (by omega)
  have hnil : ¬ s.l = [] := by intro e; rw [e] at l1; simp at l1

  rw [hm]
  have HB := Lib.hid (fun w' (hb : Below w.heap.size w w') => h.below hb)
  have QB := Lib.hid (fun w' (hb : Below w.heap.size w w') => (hb.cell (cell_lt' hq)).trans hq)
  clear h hm
  unfold pp at *
  go_enter Tryz.func176, Tryz.ntmps176
  go_wp2_with fail
  go_quiet (fail)
  have O1 := Lib.hid (Below_drewN (Below.refl w.heap.size w) nq)
  generalize w.drewN nq = w1 at *
  have o0 := HB.out _ O1.out
  have od := o0.drew
  have z := (od.setH m hml).1
  have A := Lib.hid (od.setH m hml).2.1
  have OA := Lib.hid ((Only.of_below O1.out.drew).trans (od.setH m hml).2.2)
  have p2d := od.p2
  have HS := Lib.hid (show w1.drew.cell? ⟨q, 0, none⟩ = some (.pointer (some ⟨y.pb, 0, none⟩)) ∧ w1.drew.cell? ⟨y.pb, 1, none⟩ = some (.slice (some ⟨y.fg, 0, none⟩) s.l.length y.cp) from ⟨QB.out _ O1.out.drew, od.p1⟩)
  have HS2 := Lib.hid (show (w1.drew.setCell ⟨y.pb, 2, none⟩ (.int .i64 (m : Nat))).cell? ⟨q, 0, none⟩ = some (.pointer (some ⟨y.pb, 0, none⟩)) ∧ (w1.drew.setCell ⟨y.pb, 2, none⟩ (.int .i64 (m : Nat))).cell? ⟨y.pb, 1, none⟩ = some (.slice (some ⟨y.fg, 0, none⟩) s.l.length y.cp) from ⟨by
    have c := QB.out _ O1.out.drew
    have o := (Only.refl [y.pb] w1.drew).setCell (p := ⟨y.pb, 2, none⟩) (by simp) (.int .i64 (m : Nat))
    exact (o.cell (cell_lt' c) (by simpa using hqp)).trans c, A.out.p1⟩)
  clear o0 od p1 p2 hq
  go_wp2_with fail
  refine wp_region_held_drew (S := fun W' => W'.cell? ⟨q, 0, none⟩ = some (.pointer (some ⟨y.pb, 0, none⟩)) ∧ W'.cell? ⟨y.pb, 1, none⟩ = some (.slice (some ⟨y.fg, 0, none⟩) s.l.length y.cp)) (by kernel_rfl) (HS.out) (fun hHeld => ?_)
  refine wpAnyH_take (i := 0) (oi := ⟨some 12, _, _, _, _, _⟩) (v := ?_) rfl (by kernel_rfl) (by kernel_rfl) (by kernel_rfl) (fun _ _ _ h => h) (Or.inl ⟨by kernel_rfl, ?_⟩) (by assumption) ?_
  rotate_left
  · (intro w hSw; (try dsimp only at hSw); go_simp; (try (with_reducible rfl)))
  try simp only [Act.put, List.setIfInBounds_toArray, List.set_cons_zero, List.set_cons_succ]
  refine wpAnyH_take (i := 1) (oi := ⟨some 13, _, _, _, _, _⟩) (v := ?_) rfl (by kernel_rfl) (by kernel_rfl) (by kernel_rfl) (fun _ _ _ h => h) (Or.inl ⟨by kernel_rfl, ?_⟩) (by assumption) ?_
  rotate_left
  · (intro w hSw; (try dsimp only at hSw); go_simp; (try (with_reducible rfl)))
  try simp only [Act.put, List.setIfInBounds_toArray, List.set_cons_zero, List.set_cons_succ]
  refine wpAnyH_take (i := 2) (oi := ⟨some 14, _, _, _, _, _⟩) (v := ?_) rfl (by kernel_rfl) (by kernel_rfl) (by kernel_rfl) (fun _ _ _ h => h) (Or.inl ⟨by kernel_rfl, ?_⟩) (by assumption) ?_
  rotate_left
  · (intro w hSw; (try dsimp only at hSw); go_simp; (try (with_reducible rfl)))
  try simp only [Act.put, List.setIfInBounds_toArray, List.set_cons_zero, List.set_cons_succ]
  refine wpAnyH_take (i := 3) (oi := ⟨some 15, _, _, _, _, _⟩) (v := ?_) rfl (by kernel_rfl) (by kernel_rfl) (by kernel_rfl) (fun _ _ _ h => h) (Or.inl ⟨by kernel_rfl, ?_⟩) (by assumption) ?_
  rotate_left
  · (intro w hSw; (try dsimp only at hSw); go_simp; (try (with_reducible rfl)))
  try simp only [Act.put, List.setIfInBounds_toArray, List.set_cons_zero, List.set_cons_succ]
  refine wpAnyH_take (i := 6) (oi := ⟨some 18, _, _, _, _, _⟩) (v := ?_) rfl (by kernel_rfl) (by kernel_rfl) (by kernel_rfl) (fun _ _ _ h => h) (Or.inl ⟨by kernel_rfl, ?_⟩) (by assumption) ?_
  rotate_left
  · (intro w hSw; (try dsimp only at hSw); go_simp; (try (with_reducible rfl)))
  try simp only [Act.put, List.setIfInBounds_toArray, List.set_cons_zero, List.set_cons_succ]
  refine wpAnyH_take (i := 7) (oi := ⟨some 19, _, _, _, _, _⟩) (v := ?_) rfl (by kernel_rfl) (by kernel_rfl) (by kernel_rfl) (fun _ _ _ h => h) (Or.inl ⟨by kernel_rfl, ?_⟩) (by assumption) ?_
  rotate_left
  · (intro w hSw; (try dsimp only at hSw); go_simp; (try (with_reducible rfl)))
  try simp only [Act.put, List.setIfInBounds_toArray, List.set_cons_zero, List.set_cons_succ]
  refine wpAnyH_take (i := 8) (oi := ⟨some 20, _, _, _, _, _⟩) (v := ?_) rfl (by kernel_rfl) (by kernel_rfl) (by kernel_rfl) (fun _ _ _ h => h) (Or.inl ⟨by kernel_rfl, ?_⟩) (by assumption) ?_
  rotate_left
  · (intro w hSw; (try dsimp only at hSw); go_simp; (try (with_reducible rfl)))
  try simp only [Act.put, List.setIfInBounds_toArray, List.set_cons_zero, List.set_cons_succ]
  refine wpAnyH_take (i := 9) (oi := ⟨some 21, _, _, _, _, _⟩) (v := ?_) rfl (by kernel_rfl) (by kernel_rfl) (by kernel_rfl) (fun _ _ _ h => h) (Or.inl ⟨by kernel_rfl, ?_⟩) (by assumption) ?_
  rotate_left
  · (intro w hSw; (try dsimp only at hSw); go_simp; (try (with_reducible rfl)))
  try simp only [Act.put, List.setIfInBounds_toArray, List.set_cons_zero, List.set_cons_succ]
  refine wpAnyH_take (i := 10) (oi := ⟨some 22, _, _, _, _, _⟩) (v := ?_) rfl (by kernel_rfl) (by kernel_rfl) (by kernel_rfl) (fun _ _ _ h => h) (Or.inl ⟨by kernel_rfl, ?_⟩) (by assumption) ?_
  rotate_left
  · (intro w hSw; (try dsimp only at hSw); go_simp; (try (with_reducible rfl)))
  try simp only [Act.put, List.setIfInBounds_toArray, List.set_cons_zero, List.set_cons_succ]
  refine wpAnyH_ready (rs := [4]) (by kernel_rfl) (by simp) ?_
  refine AllReadyH.cons (o := ⟨some 16, _, _, _, _, _⟩) rfl (fun K hK => ?_) AllReadyH.nil
  go_simp
  refine hK.out _ _ (HS.out) (fun hHeld => ?_)
  try simp only [Act.put, List.setIfInBounds_toArray, List.set_cons_zero, List.set_cons_succ]
  refine wpAnyH_take (i := 5) (oi := ⟨some 17, _, _, _, _, _⟩) (v := ?_) rfl (by kernel_rfl) (by kernel_rfl) (by kernel_rfl) (fun _ _ _ h => h) (Or.inl ⟨by kernel_rfl, ?_⟩) (by assumption) ?_
  rotate_left
  · (intro w hSw; (try dsimp only at hSw); go_simp; (try (with_reducible rfl)))
  try simp only [Act.put, List.setIfInBounds_toArray, List.set_cons_zero, List.set_cons_succ]
  refine wpAnyH_take (i := 11) (oi := ⟨some 23, _, _, _, _, _⟩) (v := ?_) rfl (by kernel_rfl) (by kernel_rfl) (by kernel_rfl) (fun _ _ _ h => h) (Or.inl ⟨by kernel_rfl, ?_⟩) (by assumption) ?_
  rotate_left
  · (intro w hSw; (try dsimp only at hSw); go_simp; (try (with_reducible rfl)))
  try simp only [Act.put, List.setIfInBounds_toArray, List.set_cons_zero, List.set_cons_succ]
  refine wpAnyH_take (i := 12) (oi := ⟨some 24, _, _, _, _, _⟩) (v := ?_) rfl (by kernel_rfl) (by kernel_rfl) (by kernel_rfl) (fun _ _ _ h => h) (Or.inl ⟨by kernel_rfl, ?_⟩) (by assumption) ?_
  rotate_left
  · (intro w hSw; (try dsimp only at hSw); go_simp; (try (with_reducible rfl)))
  try simp only [Act.put, List.setIfInBounds_toArray, List.set_cons_zero, List.set_cons_succ]
  refine wpAnyH_take (i := 13) (oi := ⟨some 25, _, _, _, _, _⟩) (v := ?_) rfl (by kernel_rfl) (by kernel_rfl) (by kernel_rfl) (fun _ _ _ h => h) (Or.inl ⟨by kernel_rfl, ?_⟩) (by assumption) ?_
  rotate_left
  · (intro w hSw; (try dsimp only at hSw); go_simp; (try (with_reducible rfl)))
  try simp only [Act.put, List.setIfInBounds_toArray, List.set_cons_zero, List.set_cons_succ]
  refine wpAnyH_ready (rs := [14]) (by kernel_rfl) (by simp) ?_
  refine AllReadyH.cons (o := ⟨none, _, _, _, _, _⟩) rfl (fun K hK => ?_) AllReadyH.nil
  go_simp
  refine hK.out _ _ (HS2.out) (fun hHeld => ?_)
  try simp only [Act.put, List.setIfInBounds_toArray, List.set_cons_zero, List.set_cons_succ]
  refine wpAnyH_done (by kernel_rfl) ?_ _
  go_wp2_with fail
  go_ret
  exact ⟨by first | rfl | simp, A.out, OA.out⟩
end Go.Proofs.YtbelcgjbhpjnpaaGreat.Sh
