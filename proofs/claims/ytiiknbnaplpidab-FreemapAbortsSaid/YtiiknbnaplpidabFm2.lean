/- freemap by its contracts: Index, first, Take, Leave, turn, Commit, Abort. -/
import Derived.Test.YtiiknbnaplpidabFm
namespace Go.Proofs.Ytiiknbnaplpidab.Fm
open Go.RowKit

theorem leave_any {w : World} {b g : Nat} {l : List Int} (m : MapAt w b g l) (i : Int) :
    Calls Try.prog 12 #[mp b, .int .i64 i] w fun e w' => e = .returned (.int .i64 (leaveF l i).2) ∧ MapAt w' b g (leaveF l i).1 ∧ Only [g] w w' := by
  by_cases hin : inF l i = true
  · have hin' := hin
    simp only [inF, decide_eq_true_eq] at hin'
    obtain ⟨h0, h1⟩ := hin'
    obtain ⟨k, rfl⟩ := Int.eq_ofNat_of_zero_le h0
    have hk : k < l.length := by omega
    have c0 := m.c0
    have ck := m.ck k hk
    have fk := m.fk k hk
    by_cases hz : l.getD k 0 = 2
    · have hu : leaveF l k = (l.set k 0, 0) := by simp only [leaveF, hin, if_true, Int.toNat_natCast, hz]
      rw [hu]
      rw [hz] at ck
      have HU := Lib.hid (m.set_ k 0)
      clear hz hu
      unfold mp
      go_enter Try.func12, Try.ntmps12
      go_wp2_with fail
      refine (at_ok m k hin).mono ?_
      rintro e w1 ⟨rfl, rfl⟩
      go_wp2_with fail
      go_ret
      exact ⟨rfl, HU.out, (Only.refl _ _).setCell (by simp) _⟩
    · by_cases hz1 : l.getD k 0 = 1
      · have hu : leaveF l k = (l.set k 3, 0) := by simp only [leaveF, hin, if_true, Int.toNat_natCast, hz1]; rfl
        rw [hu]
        rw [hz1] at ck
        have HU := Lib.hid (m.set_ k 3)
        clear hz hz1 hu
        unfold mp
        go_enter Try.func12, Try.ntmps12
        go_wp2_with fail
        refine (at_ok m k hin).mono ?_
        rintro e w1 ⟨rfl, rfl⟩
        go_wp2_with fail
        go_ret
        exact ⟨rfl, HU.out, (Only.refl _ _).setCell (by simp) _⟩
      · have hu : leaveF l k = (l, 9) := by simp only [leaveF, hin, if_true, Int.toNat_natCast, if_neg hz, if_neg hz1]
        rw [hu]
        clear hu fk
        generalize l.getD k 0 = x at ck hz hz1
        unfold mp
        go_enter Try.func12, Try.ntmps12
        go_wp2_with fail
        refine (at_ok m k hin).mono ?_
        rintro e w1 ⟨rfl, rfl⟩
        go_wp2_with fail
        go_ret
        exact ⟨rfl, m, Only.refl _ _⟩
  · have hin' : inF l i = false := by simpa using hin
    have hu : leaveF l i = (l, 3) := by simp only [leaveF, hin']; rfl
    rw [hu]
    clear hu
    unfold mp
    go_enter Try.func12, Try.ntmps12
    go_wp2_with fail
    refine (at_no m i hin').mono ?_
    rintro e w1 ⟨rfl, rfl⟩
    go_wp2_with fail
    go_ret
    exact ⟨rfl, m, Only.refl _ _⟩

theorem first_ge (l : List Int) (k : Int) (n : Nat) (hn : n ≤ l.length) (h : ∀ j, j < n → l.getD j 0 ≠ k) : n ≤ firstF l k := by
  rcases Nat.lt_or_ge (firstF l k) n with hlt | hge
  · have h1 : l.findIdx (· == k) < l.length := by unfold firstF at hlt; omega
    have h2 := List.findIdx_getElem (w := h1)
    have h3 := h _ hlt
    unfold firstF at h3
    simp only [List.getD, List.getElem?_eq_getElem h1, Option.getD_some] at h3
    exact absurd (by simpa using h2) h3
  · exact hge
theorem first_eq (l : List Int) (k : Int) (n : Nat) (hn : n < l.length) (h : ∀ j, j < n → l.getD j 0 ≠ k) (hk : l.getD n 0 = k) : firstF l k = n := by
  have h1 := first_ge l k n (by omega) h
  have h2 : firstF l k ≤ n := by
    unfold firstF
    have hg : l[n] = k := by simpa [List.getD, List.getElem?_eq_getElem hn] using hk
    rcases Nat.lt_or_ge n (l.findIdx (· == k)) with hlt | hge
    · have := List.not_of_lt_findIdx hlt
      simp [hg] at this
    · exact hge
  omega
theorem first_none (l : List Int) (k : Int) (h : ∀ j, j < l.length → l.getD j 0 ≠ k) : firstF l k = l.length := by
  have := first_ge l k l.length (Nat.le_refl _) h
  have h2 : firstF l k ≤ l.length := List.findIdx_le_length
  omega
def indexF (l : List Int) (k : Int) : Int := if firstF l k < l.length then (firstF l k : Int) else -1

theorem index_any (g n c : Nat) (l : List Int) (hn : n = l.length) (hm : n ≤ 1000000) (k : Int) (w : World) (hc : ∀ j, j < l.length → w.cell? ⟨g, j, none⟩ = some (.int .i64 (l.getD j 0))) :
    Calls Try.prog 31 #[.slice (some ⟨g, 0, none⟩) n c, .int .i64 k] w fun e w' => e = .returned (.int .i64 (indexF l k)) ∧ w = w' := by
  subst hn
  go_enter Try.func31, Try.ntmps31
  go_wp2
  go_loop [5, 8] (fun _ i => ∃ j : Nat, j ≤ l.length ∧ i = .int .i64 j ∧ Hid (∀ x, x < j → l.getD x 0 ≠ k)) (fun _ i => l.length - (intOf i).toNat)
  case atStart => exact ⟨0, by omega, rfl, Lib.hid (by omega)⟩
  case round =>
    obtain ⟨j, hj, rfl, H⟩ := hrel
    by_cases h : j < l.length
    · have cj := hc j h
      clear hc
      by_cases hk : l.getD j 0 = k
      · have he : indexF l k = j := by unfold indexF; rw [first_eq l k j h H.out hk, if_pos h]
        have HE := Lib.hid he
        clear he
        rw [hk] at cj
        clear hk
        go_wp2
        go_ret
        exact ⟨by rw [HE.out]; rfl, rfl⟩
      · have H2 := Lib.hid (show ∀ x, x < j + 1 → l.getD x 0 ≠ k from fun x hx => by
          rcases Nat.lt_or_ge x j with h1 | h1
          · exact H.out x h1
          · have : x = j := by omega
            subst this; exact hk)
        have hk' : (k == l.getD j 0) = false := by simp; exact fun e => hk e.symm
        clear hk
        generalize l.getD j 0 = y at *
        go_wp2
        go_round
        case rel => exact ⟨j + 1, by omega, by go_num, H2⟩
        case measure => simp [intOf]; omega
    · have hjl : j = l.length := by omega
      have he : indexF l k = -1 := by
        unfold indexF; rw [first_none l k (by rw [← hjl]; exact H.out), if_neg (by omega)]
      have HE := Lib.hid he
      clear he hjl hc
      go_wp2
      go_ret
      exact ⟨by rw [HE.out]; rfl, rfl⟩

theorem first_any {w : World} {b g : Nat} {l : List Int} (m : MapAt w b g l) (k : Int) :
    Calls Try.prog 25 #[mp b, .int .i64 k] w fun e w' => e = .returned (.int .i64 (indexF l k)) ∧ w = w' := by
  have hl := m.hl
  have c0 := m.c0
  have HC := Lib.hid m.ck
  unfold mp
  go_enter Try.func25, Try.ntmps25
  go_wp2_with fail
  refine (index_any g _ _ l rfl (by omega) k _ HC.out).mono ?_
  rintro e w1 ⟨rfl, rfl⟩
  go_wp2_with fail
  go_ret
  exact ⟨rfl, rfl⟩

theorem take_nil (w : World) :
    Calls Try.prog 14 #[.pointer none] w fun e w' => e = .returned (.tuple #[.int .i64 0, .int .i64 1]) ∧ w = w' := by
  go_enter Try.func14, Try.ntmps14
  go_wp2
  go_ret2
  exact ⟨rfl, rfl⟩
theorem take_any {w : World} {b g : Nat} {l : List Int} (m : MapAt w b g l) :
    Calls Try.prog 14 #[mp b] w fun e w' => e = .returned (.tuple #[.int .i64 (takeF l).2.1, .int .i64 (takeF l).2.2]) ∧ MapAt w' b g (takeF l).1 ∧ Only [g] w w' := by
  have hl := m.hl
  have c0 := m.c0
  by_cases h : firstF l 0 < l.length
  · have hu : takeF l = (l.set (firstF l 0) 2, (firstF l 0 : Int), 0) := by rw [takeF, if_pos h]
    have hi : indexF l 0 = firstF l 0 := by rw [indexF, if_pos h]
    rw [hu]
    have K := Lib.hid (hi ▸ first_any m 0)
    have ck := m.ck _ h
    have fk := m.fk _ h
    have HU := Lib.hid (m.set_ (firstF l 0) 2)
    clear hu hi
    generalize firstF l 0 = k at *
    unfold mp at *
    go_enter Try.func14, Try.ntmps14
    go_wp2_with fail
    refine (K.out).mono ?_
    rintro e w1 ⟨rfl, rfl⟩
    go_wp2_with fail
    go_ret2
    exact ⟨rfl, HU.out, (Only.refl _ _).setCell (by simp) _⟩
  · have hu : takeF l = (l, 0, 11) := by rw [takeF, if_neg h]
    have hi : indexF l 0 = -1 := by rw [indexF, if_neg h]
    rw [hu]
    have K := Lib.hid (hi ▸ first_any m 0)
    clear hu hi h
    unfold mp at *
    go_enter Try.func14, Try.ntmps14
    go_wp2_with fail
    refine (K.out).mono ?_
    rintro e w1 ⟨rfl, rfl⟩
    go_wp2_with fail
    go_ret2
    exact ⟨rfl, m, Only.refl _ _⟩
end Go.Proofs.Ytiiknbnaplpidab.Fm
