/- pool by its contracts: held, Let, New. -/
import Derived.Test.YtbelcgjbhpjnpaaGreatSh11
namespace Go.Proofs.YtbelcgjbhpjnpaaGreat.Sh
open Go.RowKit Pk Dk Pg
attribute [local go_sem ↓] Go.wp_at_zero Go.wp_at_succ
theorem frc_set (l : List Fr) (k j : Nat) (hj : j < 5) (f f' : Fr) (u : Value) (hf : l[k]? = some f) (hu : f'.cs = f.cs.set j u) : (frc l).set (k * 5 + j) u = frc (l.set k f') := by
  induction l generalizing k with
  | nil => simp at hf
  | cons a l ih =>
    have e5 : a.cs.length = 5 := rfl
    cases k with
    | zero =>
      simp at hf
      subst hf
      simp only [frc, List.flatMap_cons, List.set_cons_zero, Nat.zero_mul, Nat.zero_add] at ih ⊢
      rw [List.set_append_left _ _ (by omega), hu]
    | succ k =>
      simp at hf
      have := ih k hf
      simp only [frc, List.flatMap_cons, List.set_cons_succ] at this ⊢
      rw [List.set_append_right _ _ (by omega), e5, show (k + 1) * 5 + j - 5 = k * 5 + j from by omega, this]
section
variable {w w' : World} {y : Y} {n : Nat} {s : PS} {S : List Nat}
/-- one field of a frame is stored -/
theorem AtP.setF (h : AtP w y n s) (k j : Nat) (hj : j < 5) {f : Fr} (f' : Fr) (u : Value) (hf : s.l[k]? = some f) (hu : f'.cs = f.cs.set j u) :
    w.frozen? ⟨y.fg, k * 5 + j, none⟩ = false ∧ AtP (w.setCell ⟨y.fg, k * 5 + j, none⟩ u) y n { s with l := s.l.set k f' } ∧ Only y.fp w (w.setCell ⟨y.fg, k * 5 + j, none⟩ u) := by
  have hk : k < s.l.length := (List.getElem?_eq_some_iff.1 hf).1
  have hl := frc_length s.l
  obtain ⟨rest, B, hr, _, hm⟩ := h.hf.blk
  have o : Only [y.fg] w (w.setCell ⟨y.fg, k * 5 + j, none⟩ u) := (Only.refl _ _).setCell (by simp) _
  have B2 := B.set_ (k * 5 + j) u
  rw [List.setIfInBounds_toArray, List.set_append_left _ _ (by omega), frc_set s.l k j hj f f' u hf hu] at B2
  refine ⟨B.frozen _ (by simp; omega), ⟨?_, ?_, h.hs.only o (fun g hg hm => by simp at hm; subst hm; exact h.n2 hg), h.n1, h.n2, by simpa using h.l1, by simpa using h.l2, by simpa using h.lh⟩, o.mono (fun g hg _ => by simp at hg; subst hg; simp [Y.fp])⟩
  · have := h.hp.only o (by simpa using h.n3)
    simpa using this
  · refine ⟨by rw [frc_length], .inr ⟨y.fg, y.cp, rest, by simp, B2, by rw [frc_length, List.length_set]; omega, hm⟩⟩
/-- the hand moves -/
theorem AtP.setH (h : AtP w y n s) (k : Nat) (hk : k < s.l.length) :
    w.frozen? ⟨y.pb, 2, none⟩ = false ∧ AtP (w.setCell ⟨y.pb, 2, none⟩ (.int .i64 (k : Nat))) y n { s with hand := k } ∧ Only y.fp w (w.setCell ⟨y.pb, 2, none⟩ (.int .i64 (k : Nat))) := by
  have o : Only [y.pb] w (w.setCell ⟨y.pb, 2, none⟩ (.int .i64 (k : Nat))) := (Only.refl _ _).setCell (by simp) _
  have n3 := h.n3
  refine ⟨h.hp.frozen 2 (by simp), ⟨h.hp.set_ 2 _, h.hf.only o (fun g hg hm => by simp [ownB] at hg hm; omega), h.hs.only o (fun g hg hm => by simp at hm; subst hm; exact h.n1 hg), h.n1, h.n2, h.l1, h.l2, hk⟩, o.mono (fun g hg _ => by simp at hg; subst hg; simp [Y.fp])⟩
end
theorem ixF_le (b : Fr → Bool) (l : List Fr) : ixF b l = -1 ∨ ∃ k f, ixF b l = ((k : Nat) : Int) ∧ l[k]? = some f ∧ b f = true := by
  unfold ixF
  by_cases h : l.findIdx b < l.length
  · rw [if_pos h]
    exact .inr ⟨l.findIdx b, l[l.findIdx b], rfl, List.getElem?_eq_getElem h, List.findIdx_getElem⟩
  · rw [if_neg h]
    exact .inl rfl
theorem findF_le (l : List Fr) (p : Int) : findF l p = -1 ∨ ∃ k f, findF l p = ((k : Nat) : Int) ∧ l[k]? = some f ∧ f.page = p ∧ 0 ≤ p := by
  unfold findF
  by_cases h : p < 0
  · rw [if_pos h]; exact .inl rfl
  · rw [if_neg h]
    exact (ixF_le _ l).imp id (fun ⟨k, f, e1, e2, e3⟩ => ⟨k, f, e1, e2, by simpa using e3, by omega⟩)
/-- the place of a page's frame, if it is held -/
def PS.heldF (s : PS) (p : Int) : Option (Nat × Fr) :=
  if findF s.l p < 0 then none else match s.l[(findF s.l p).toNat]? with
    | none => none
    | some f => if f.held = 0 then none else some ((findF s.l p).toNat, f)
def heldV (y : Y) : Option (Nat × Fr) → Value
  | none => .tuple #[.pointer none, .int .i64 16]
  | some (k, _) => .tuple #[.pointer (some ⟨y.fg, k * 5, none⟩), .int .i64 0]
set_option maxRecDepth 100000 in
set_option maxHeartbeats 2000000 in
theorem held_any {w : World} {y : Y} {n : Nat} {s : PS} (h : AtP w y n s) (p : Int) :
    Calls Tryz.prog 129 #[pp y.pb, .int .i64 p] w fun e w' => e = .returned (heldV y (s.heldF p)) ∧ Below w.heap.size w w' := by
  have KF := Lib.hid (find_any h p)
  have HB := Lib.hid (fun w' (hb : Below w.heap.size w w') => h.below hb)
  obtain ⟨R, hR⟩ : ∃ R, heldV y (s.heldF p) = R := ⟨_, rfl⟩
  rw [hR]
  unfold PS.heldF at hR
  unfold pp at *
  rcases findF_le s.l p with e | ⟨k, f, e, hf, _, _⟩
  · rw [e, if_pos (by omega)] at hR
    rw [e] at KF
    subst hR
    unfold heldV
    clear h e
    go_enter Tryz.func129, Tryz.ntmps129
    go_wp2_with fail
    refine KF.out.mono ?_
    rintro e w1 ⟨rfl, hb1⟩
    have O1 := Lib.hid hb1
    clear hb1
    go_wp2_with fail
    go_ret2
    exact ⟨by first | rfl | simp, O1.out⟩
  · rw [e, if_neg (by omega), show ((k : Nat) : Int).toNat = k from by omega, hf] at hR
    rw [e] at KF
    have hk : k < s.l.length := (List.getElem?_eq_some_iff.1 hf).1
    have hkI : (k : Int) < (s.l.length : Int) := by omega
    have hk0 : ¬ (k : Int) < 0 := by omega
    have HX := Lib.hid (fun w' (hb : Below w.heap.size w w') => (show w'.cell? ⟨y.pb, 1, none⟩ = some (.slice (some ⟨y.fg, 0, none⟩) s.l.length y.cp) ∧ w'.cell? ⟨y.fg, k * 5 + 2, none⟩ = some (.int .i64 f.held) from ⟨(HB.out w' hb).p1, ((HB.out w' hb).frs k f hf).2.2.1⟩))
    have HL := Lib.hid (show s.l.length ≤ 32 from h.l2)
    dsimp only at hR
    by_cases hh : f.held = 0
    · rw [if_pos hh] at hR
      subst hR
      have hq : (f.held == 0) = true := by rw [beq_iff_eq]; exact hh
      unfold heldV
      clear h e hf hk hh
      generalize f.held = fh at *
      generalize s.l.length = tn at *
      go_enter Tryz.func129, Tryz.ntmps129
      go_wp2_with fail
      refine KF.out.mono ?_
      rintro e w1 ⟨rfl, hb1⟩
      have O1 := Lib.hid hb1
      obtain ⟨x1, x2⟩ := HX.out w1 hb1
      clear hb1
      go_wp2_with fail
      go_ret2
      exact ⟨by first | rfl | simp, O1.out⟩
    · rw [if_neg hh] at hR
      subst hR
      have hq : (f.held == 0) = false := by rw [beq_eq_false_iff_ne]; exact hh
      unfold heldV
      clear h e hf hk hh
      generalize f.held = fh at *
      generalize s.l.length = tn at *
      go_enter Tryz.func129, Tryz.ntmps129
      go_wp2_with fail
      refine KF.out.mono ?_
      rintro e w1 ⟨rfl, hb1⟩
      have O1 := Lib.hid hb1
      obtain ⟨x1, x2⟩ := HX.out w1 hb1
      clear hb1
      go_wp2_with fail
      go_ret2
      exact ⟨by first | rfl | simp, O1.out⟩
end Go.Proofs.YtbelcgjbhpjnpaaGreat.Sh
