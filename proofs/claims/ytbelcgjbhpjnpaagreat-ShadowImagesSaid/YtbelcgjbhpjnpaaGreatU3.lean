/- what Open read: every page that was reached passed its checks. -/
import Derived.Test.YtbelcgjbhpjnpaaGreatU1
set_option linter.all false
set_option linter.unusedVariables false
set_option linter.unusedSimpArgs false
namespace Go.Proofs.YtbelcgjbhpjnpaaGreat.Sh
open Go.RowKit Pk Dk Pg
/-- a page that passed -/
def Passed (d : Dk.D) (n : Nat) (ep x kd : Int) : Prop := (preadF d n x).2 = 0 ∧ (preadF d n x).1.kd = kd ∧ (preadF d n x).1.ep ≤ ep
theorem chk_ok {c : C} {n : Nat} {x kd : Int} (h : (c.checkF n x kd).2.2 = 0) : Passed c.d n c.ep x kd := by
 obtain ⟨_, h1, h2, h3, _⟩ := check_ok h
 exact ⟨h1, h2, h3⟩
theorem loadOne_ok {c : C} {n k : Nat} {x : Int} (h : (c.loadOne n x k).2 = 0) : Passed c.d n c.ep x 1 ∧ ∃ m t, (c.loadOne n x k).1 = { c with m := m, table := t } := by
 unfold C.loadOne at h ⊢
 by_cases h1 : (c.checkF n x 1).2.2 ≠ 0
 ·rw [if_pos h1] at h; exact absurd h h1
 rw [if_neg h1] at h ⊢
 have hc : Passed c.d n c.ep x 1 := chk_ok (by simpa using h1)
 have hf := check_fields c n x 1
 generalize c.checkF n x 1 = R at *
 obtain ⟨c1, pg, e1⟩ := R
 dsimp only at hf h ⊢
 subst hf
 by_cases h2 : (List.range k).any (fun j => decide (1024 < Rt.at2 pg.s (2 * j))) = true
 ·rw [if_pos h2] at h; exact absurd h (by simp)
 rw [if_neg h2]
 exact ⟨hc, _, _, rfl⟩
theorem loadF_ok {c : C} {n lg : Nat} : ∀ k, (c.loadF n lg k).2 = 0 → (∃ m t, (c.loadF n lg k).1 = { c with m := m, table := t }) ∧ ∀ i, i < k → Passed c.d n c.ep (c.parts.getD i 0) 1
 | 0, _ => ⟨⟨c.m, c.table, rfl⟩, fun i hi => absurd hi (Nat.not_lt_zero i)⟩
 | k + 1, h => by
  rw [loadF_succ] at h ⊢
  by_cases h1 : (c.loadF n lg k).2 ≠ 0
  ·rw [if_pos h1] at h; exact absurd h h1
  rw [if_neg h1] at h ⊢
  obtain ⟨⟨m, t, e⟩, ih⟩ := loadF_ok k (by simpa using h1)
  obtain ⟨hp, m2, t2, e2⟩ := loadOne_ok h
  rw [e] at hp e2
  rw [e]
  refine ⟨⟨m2, t2, e2⟩, fun i hi => ?_⟩
  by_cases hk : i = k
  ·subst hk; exact hp
  ·exact ih i (by omega)
theorem scanF_ok {c : C} {n : Nat} : ∀ k, (c.scanF n k).2 = 0 → ∀ i, i < k → 0 ≤ c.table.getD i 0 → Passed c.d n c.ep (c.table.getD i 0) 2
 | 0, _ => fun i hi => absurd hi (Nat.not_lt_zero i)
 | k + 1, h => by
  intro i hi h0
  rw [scanF_succ] at h
  by_cases h1 : (c.scanF n k).2 ≠ 0
  ·rw [if_pos h1] at h; exact absurd h h1
  rw [if_neg h1] at h
  have ih := scanF_ok k (by simpa using h1)
  by_cases hk : i = k
  ·subst hk
   rw [if_neg (by omega)] at h
   obtain ⟨m, e⟩ := scanF_fields c n i
   have hp := chk_ok h
   rw [e] at hp
   exact hp
  ·exact ih i (by omega) h0
/-- a store that Open found -/
theorem openF_ok {c : C} {n lg : Nat} (h : (c.openF n lg).2 = 0) (ht : c.table = []) : (c.openF n lg).1.d = c.d ∧ (c.openF n lg).1.ep = c.ep ∧ (c.openF n lg).1.parts = c.parts ∧ (c.openF n lg).1.old = (c.openF n lg).1.table ∧ (c.openF n lg).1.broken = c.broken ∧
  (∀ x ∈ c.parts, Passed c.d n c.ep x 1) ∧ ∀ x ∈ (c.openF n lg).1.old, 0 ≤ x → Passed c.d n c.ep x 2 := by
 unfold C.openF at h ⊢
 by_cases h1 : (c.loadF n lg c.parts.length).2 ≠ 0
 ·rw [if_pos h1] at h; exact absurd h h1
 rw [if_neg h1] at h ⊢
 obtain ⟨⟨m, t, e⟩, hp⟩ := loadF_ok (n := n) (lg := lg) c.parts.length (by simpa using h1)
 rw [e] at h ⊢
 dsimp only at h ⊢
 by_cases h2 : (({ c with m := m, table := t } : C).scanF n t.length).2 ≠ 0
 ·rw [if_pos h2] at h; exact absurd h h2
 rw [if_neg h2]
 obtain ⟨m2, e2⟩ := scanF_fields ({ c with m := m, table := t } : C) n t.length
 have hs := scanF_ok (c := { c with m := m, table := t }) (n := n) t.length (by simpa using h2)
 dsimp only at hs
 rw [e2]
 dsimp only
 refine ⟨rfl, rfl, rfl, rfl, rfl, fun x hx => ?_, fun x hx h0 => ?_⟩
 ·obtain ⟨i, hi⟩ := List.mem_iff_getElem?.1 hx
  have hl := (List.getElem?_eq_some_iff.1 hi).1
  have := hp i hl
  rwa [List.getD_eq_getElem?_getD, hi] at this
 ·obtain ⟨i, hi⟩ := List.mem_iff_getElem?.1 hx
  have hl := (List.getElem?_eq_some_iff.1 hi).1
  have := hs i hl (by rw [List.getD_eq_getElem?_getD, hi]; exact h0)
  rwa [List.getD_eq_getElem?_getD, hi] at this
theorem Passed.pg {d : Dk.D} {n : Nat} {ep x kd : Int} (h : Passed d n ep x kd) (hk : kd = 1 ∨ kd = 2) : PgIn d n ep x := by
 obtain ⟨h1, h2, h3⟩ := h
 obtain ⟨P, hP⟩ : ∃ P, preadF d n x = P := ⟨_, rfl⟩
 rw [hP] at h1 h2 h3
 obtain ⟨a, b, e, f⟩ := pread_got (pg := P.1) (hP.trans (Prod.ext rfl h1))
 obtain ⟨⟨id, q, k, s⟩, z⟩ := P
 dsimp only at *
 subst f h2
 exact ⟨a, b, q, k, s, e, h3, hk⟩
end Go.Proofs.YtbelcgjbhpjnpaaGreat.Sh
