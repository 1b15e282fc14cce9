/- both maps side by side: do. -/
import Derived.Test.YtiiknbnaplpidabFmDo
namespace Go.Proofs.Ytiiknbnaplpidab.Fm
open Go.RowKit
set_option maxRecDepth 100000 in
set_option maxHeartbeats 2000000 in
theorem do_commit {w : World} {b g b' : Nat} {v : Value} {l : List Int} (h : Both w b g b' v l) (i : Int) :
    Calls Try.prog 22 #[mp b, mp b', actV 6 i] w fun e w' => e = .returned (.bool true) ∧ BothTo w w' b g b' (turnF 0 1 l) := by
  have O0 := (Below.refl w.heap.size w).alloc (Nat.le_refl _) (.cells #[.int .i64 6, .int .i64 i] 32)
  have h0 := Lib.hid (h.below O0)
  have K1 := Lib.hid (rturn_any h0.out.r 1 0)
  unfold mp actV at *
  go_enter Try.func22, Try.ntmps22
  go_wp2_with fail
  refine K1.out.mono ?_
  rintro e w1 ⟨rfl, R⟩
  have R' := R
  obtain ⟨v', r1, o1, f1⟩ := R
  have m1 := h0.out.m.only o1 (by simp; exact h0.out.bb) (by simp; exact h0.out.gb)
  have K2 := Lib.hid (commit_any m1)
  unfold mp at K2
  go_wp2_with fail
  refine K2.out.mono ?_
  rintro e w2 ⟨rfl, m2, o2⟩
  go_wp2_with fail
  go_ret
  exact ⟨rfl, (Both.to' h0.out R' (fun _ => ⟨o2, m2⟩)).from_ O0⟩
set_option maxRecDepth 100000 in
set_option maxHeartbeats 2000000 in
theorem do_abort {w : World} {b g b' : Nat} {v : Value} {l : List Int} (h : Both w b g b' v l) (i : Int) :
    Calls Try.prog 22 #[mp b, mp b', actV 7 i] w fun e w' => e = .returned (.bool true) ∧ BothTo w w' b g b' (turnF 1 0 l) := by
  have O0 := (Below.refl w.heap.size w).alloc (Nat.le_refl _) (.cells #[.int .i64 7, .int .i64 i] 32)
  have h0 := Lib.hid (h.below O0)
  have K1 := Lib.hid (rturn_any h0.out.r 0 1)
  unfold mp actV at *
  go_enter Try.func22, Try.ntmps22
  go_wp2_with fail
  refine K1.out.mono ?_
  rintro e w1 ⟨rfl, R⟩
  have R' := R
  obtain ⟨v', r1, o1, f1⟩ := R
  have m1 := h0.out.m.only o1 (by simp; exact h0.out.bb) (by simp; exact h0.out.gb)
  have K2 := Lib.hid (abort_any m1)
  unfold mp at K2
  go_wp2_with fail
  refine K2.out.mono ?_
  rintro e w2 ⟨rfl, m2, o2⟩
  go_wp2_with fail
  go_ret
  exact ⟨rfl, (Both.to' h0.out R' (fun _ => ⟨o2, m2⟩)).from_ O0⟩
set_option maxRecDepth 100000 in
set_option maxHeartbeats 2000000 in
theorem do_take {w : World} {b g b' : Nat} {v : Value} {l : List Int} (h : Both w b g b' v l) (kind i : Int) (k0 : (kind == 0) = false) (k4 : (kind == 4) = false) (k5 : (kind == 5) = false) (k6 : (kind == 6) = false) (k7 : (kind == 7) = false) :
    Calls Try.prog 22 #[mp b, mp b', actV kind i] w fun e w' => e = .returned (.bool true) ∧ BothTo w w' b g b' (takeF l).1 := by
  have O0 := (Below.refl w.heap.size w).alloc (Nat.le_refl _) (.cells #[.int .i64 kind, .int .i64 i] 32)
  have h0 := Lib.hid (h.below O0)
  have K1 := Lib.hid (take_any h0.out.m)
  unfold mp actV at *
  go_enter Try.func22, Try.ntmps22
  go_wp2_with fail
  refine K1.out.mono ?_
  rintro e w1 ⟨rfl, m1, o1⟩
  have R1 := Both.ref h0.out o1
  have K2 := Lib.hid (rtake_any R1)
  unfold mp at K2
  go_wp2_with fail
  refine K2.out.mono ?_
  rintro e w2 ⟨rfl, R2⟩
  go_wp2_with fail
  go_ret
  exact ⟨rfl, (Both.to h0.out o1 m1 R2).from_ O0⟩
theorem do_any {w : World} {b g b' : Nat} {v : Value} {l : List Int} (h : Both w b g b' v l) (kind i : Int) :
    Calls Try.prog 22 #[mp b, mp b', actV kind i] w fun e w' => e = .returned (.bool true) ∧ BothTo w w' b g b' (doF l kind i) := by
  unfold doF
  by_cases k0 : kind = 0
  · rw [if_pos k0]; subst k0; exact do_use h i
  rw [if_neg k0]
  by_cases k4 : kind = 4
  · rw [if_pos k4]; subst k4; exact do_leave4 h i
  rw [if_neg k4]
  by_cases k5 : kind = 5
  · rw [if_pos k5]; subst k5; exact do_leave5 h i
  rw [if_neg k5]
  by_cases k6 : kind = 6
  · rw [if_pos k6]; subst k6; exact do_commit h i
  rw [if_neg k6]
  by_cases k7 : kind = 7
  · rw [if_pos k7]; subst k7; exact do_abort h i
  rw [if_neg k7]
  exact do_take h kind i (by simpa using k0) (by simpa using k4) (by simpa using k5) (by simpa using k6) (by simpa using k7)
end Go.Proofs.Ytiiknbnaplpidab.Fm
