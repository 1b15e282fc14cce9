/- the healthy store: a page is dropped, read; the store at its beginning. -/
import Derived.Test.YtbelcgjbhpjnpaaSm3
namespace Go.Proofs.Ytbelcgjbhpjnpaa.Sh
open Go.RowKit Pk Dk Pg
theorem abs_at {c : C} {n : Nat} (l : Int) : (c.absF n).at l = if 0 ≤ l then ((c.table[l.toNat]?).map (c.slotOf n)).getD none else none := by
  unfold St.at C.absF
  simp only [List.getElem?_map]
theorem abs_has {c : C} {n : Nat} (g : Good c n) (l : Int) : (c.hasF l = true ↔ ((c.absF n).at l).isSome = true) ∧ (c.hasF l = true → ∃ k x : Nat, l = k ∧ c.table[k]? = some (x : Int) ∧ (x : Int) < c.m.length ∧ (c.absF n).at l = c.slotOf n x) := by
  rw [abs_at]
  have key : c.hasF l = true ↔ 0 ≤ l ∧ ∃ x, c.table[l.toNat]? = some x ∧ 0 ≤ x := by
    unfold C.hasF
    simp only [Bool.and_eq_true, decide_eq_true_eq]
    constructor
    · rintro ⟨⟨h1, h2⟩, h3⟩
      refine ⟨h1, c.table.getD l.toNat 0, ?_, h3⟩
      rw [List.getElem?_eq_getElem (by omega)]
      simp [List.getD, List.getElem?_eq_getElem (show l.toNat < c.table.length by omega)]
    · rintro ⟨h1, x, h2, h3⟩
      have hl : l.toNat < c.table.length := (List.getElem?_eq_some_iff.1 h2).1
      refine ⟨⟨h1, by omega⟩, ?_⟩
      simp [List.getD, h2]; exact h3
  rw [key]
  constructor
  · constructor
    · rintro ⟨h1, x, h2, h3⟩
      rw [if_pos h1, h2]
      simp [C.slotOf]; omega
    · intro h
      by_cases h1 : 0 ≤ l
      · rw [if_pos h1] at h
        refine ⟨h1, ?_⟩
        cases h2 : c.table[l.toNat]? with
        | none => rw [h2] at h; simp at h
        | some x =>
          refine ⟨x, rfl, ?_⟩
          rw [h2] at h
          simp [C.slotOf] at h
          omega
      · rw [if_neg h1] at h; simp at h
  · rintro ⟨h1, x, h2, h3⟩
    have := g.ti x (List.mem_of_getElem? h2)
    obtain ⟨xn, rfl⟩ := Int.eq_ofNat_of_zero_le h3
    refine ⟨l.toNat, xn, by omega, h2, by omega, ?_⟩
    rw [if_pos h1, h2]; rfl
theorem atF_good {c : C} {n : Nat} (g : Good c n) (l : Int) : c.atF l = if c.hasF l = true then 0 else 3 := by
  unfold C.atF
  rw [if_neg (by rw [g.br]; simp)]
theorem read_good {c : C} {n : Nat} (g : Good c n) (l : Int) : c.readF n l = (c.absF n).readF l := by
  obtain ⟨h1, h2⟩ := abs_has g l
  unfold C.readF St.readF
  rw [atF_good g]
  by_cases hh : c.hasF l = true
  · obtain ⟨k, x, rfl, hk, hx, e⟩ := h2 hh
    rw [if_pos hh, if_neg (by simp), e]
    obtain ⟨q, s, q1, q2, q3, q4⟩ := g.rt x (List.mem_of_getElem? hk) (by omega)
    have e2 : c.table.getD ((k : Nat) : Int).toNat 0 = (x : Int) := by rw [show ((k : Nat) : Int).toNat = k by omega]; simp [List.getD, hk]
    rw [e2, q4, if_neg (by simp)]
    unfold C.slotOf
    rw [if_neg (by omega), q4]
  · rw [if_neg hh, if_pos (by simp)]
    have : ((c.absF n).at l) = none := by
      cases h : (c.absF n).at l with
      | none => rfl
      | some v => exact absurd (h1.2 (by rw [h]; rfl)) hh
    rw [this]
theorem read_len {c : C} {n : Nat} (g : Good c n) {l : Int} (h : ((c.absF n).readF l).2 = 0) : ((c.absF n).readF l).1.length = 232 := by
  obtain ⟨h1, h2⟩ := abs_has g l
  by_cases hh : c.hasF l = true
  · obtain ⟨k, x, rfl, hk, hx, e⟩ := h2 hh
    obtain ⟨q, s, q1, q2, q3, q4⟩ := g.rt x (List.mem_of_getElem? hk) (by omega)
    unfold St.readF
    rw [e]
    unfold C.slotOf
    rw [if_neg (by omega), q4]
    exact q3
  · have : ((c.absF n).at l) = none := by
      cases h : (c.absF n).at l with
      | none => rfl
      | some v => exact absurd (h1.2 (by rw [h]; rfl)) hh
    unfold St.readF at h
    rw [this] at h
    simp at h
theorem drop_good {c : C} {n : Nat} (g : Good c n) (l : Int) :
    Good (c.dropF l).1 n ∧ (c.dropF l).1.absF n = ((c.absF n).dropF l).1 ∧ (c.dropF l).2 = ((c.absF n).dropF l).2 ∧ (c.dropF l).1.d = c.d ∧ (c.dropF l).1.old = c.old ∧ (c.dropF l).1.parts = c.parts := by
  obtain ⟨h1, h2⟩ := abs_has g l
  unfold C.dropF St.dropF
  rw [atF_good g]
  by_cases hh : c.hasF l = true
  · obtain ⟨k, x, rfl, hk, hx, e⟩ := h2 hh
    have e2 : c.table.getD ((k : Nat) : Int).toNat 0 = (x : Int) := by rw [show ((k : Nat) : Int).toNat = k by omega]; simp [List.getD, hk]
    have hxt := List.mem_of_getElem? hk
    have hxp : (x : Int) ∉ c.parts := fun h => (g.dt _ h).1 hxt
    rw [if_pos hh, if_neg (by simp), if_pos (h1.1 hh), e2, show ((k : Nat) : Int).toNat = k by omega]
    have hxl : x < c.m.length := by omega
    have hin : Fm.inF c.m (x : Int) = true := by unfold Fm.inF; simp; omega
    have hkx := g.md x hxl
    obtain ⟨u, hu, hu2⟩ : ∃ u, (Fm.leaveF c.m (x : Int)).1 = c.m.set x u ∧ u = if (x : Int) ∈ c.old then 3 else 0 := by
      unfold Fm.leaveF
      rw [if_pos hin, show ((x : Nat) : Int).toNat = x by omega, hkx]
      unfold kindOf
      rw [if_neg hxp]
      by_cases ho : (x : Int) ∈ c.old
      · rw [if_pos ho, if_pos hxt, if_neg (by omega), if_pos rfl]
        exact ⟨3, rfl, by rw [if_pos ho]⟩
      · rw [if_neg ho, if_pos hxt, if_pos rfl]
        exact ⟨0, rfl, by rw [if_neg ho]⟩
    obtain ⟨c', hc⟩ : ∃ c' : C, c' = { c with m := (Fm.leaveF c.m (x : Int)).1, table := c.table.set k (-1) } := ⟨_, rfl⟩
    have hml : c'.m.length = c.m.length := by rw [hc]; show (Fm.leaveF c.m (x : Int)).1.length = _; rw [hu, List.length_set]
    have mt : ∀ z, 0 ≤ z → (z ∈ c'.table ↔ z ∈ c.table ∧ z ≠ x) := fun z hz => by rw [hc]; exact mem_set_iff g.tj hk (-1) hz (by omega) (by omega)
    have hsub : ∀ z ∈ c'.table, 0 ≤ z → z ∈ c.table := fun z hz h0 => ((mt z h0).1 hz).1
    have hkind : ∀ z : Int, 0 ≤ z → kindOf c' z = if z = x then u else kindOf c z := by
      intro z hz
      unfold kindOf
      have e3 : c'.parts = c.parts := by rw [hc]
      have e4 : c'.old = c.old := by rw [hc]
      rw [e3, e4]
      by_cases e : z = x
      · rw [if_pos e]
        subst e
        rw [if_neg hxp, hu2]
        have : (x : Int) ∉ c'.table := fun h => ((mt _ hz).1 h).2 rfl
        simp only [this, if_false]
      · rw [if_neg e]
        have : (z ∈ c'.table) ↔ z ∈ c.table := (mt z hz).trans ⟨fun h => h.1, fun h => ⟨h, e⟩⟩
        simp only [this]
    show Good { c with m := (Fm.leaveF c.m (x : Int)).1, table := c.table.set k (-1) } n ∧ _
    refine ⟨?_, ?_, rfl, rfl, rfl, rfl⟩
    · rw [← hc]
      refine ⟨by rw [hc]; exact g.up, by rw [hc]; exact g.arm, by rw [hc]; exact g.br, by rw [hc]; exact g.ok, hml.trans g.ml, by rw [hc]; exact g.ep, by rw [hc]; exact g.sl, ?_, by rw [hml, hc]; exact g.oi, by rw [hml, hc]; exact g.pi, by rw [hc]; exact g.tj.set_ k (-1) (.inl (by omega)), by rw [hc]; exact g.oj, by rw [hc]; exact g.pj, ?_, by rw [hc]; exact g.pl, ?_, ?_, ?_, by rw [hc]; exact g.ro⟩
      · intro z hz
        rw [hml]
        by_cases h0 : 0 ≤ z
        · exact g.ti z (hsub z hz h0)
        · rw [hc] at hz
          rcases List.mem_or_eq_of_mem_set hz with hz | rfl
          · exact g.ti z hz
          · exact .inl rfl
      · intro z hz
        have hz' : z ∈ c.parts := by rw [hc] at hz; exact hz
        exact ⟨fun h => (g.dt z hz').1 (hsub z h (g.pi z hz').1), by rw [hc]; exact (g.dt z hz').2⟩
      · intro i z hi hz ho
        rw [hc] at hi ho ⊢
        have hi : (c.table.set k (-1))[i]? = some z := hi
        rw [List.getElem?_set] at hi
        split at hi
        · split at hi
          · injection hi with hi; omega
          · cases hi
        · exact g.sm i z hi hz ho
      · intro i hi
        rw [hml] at hi
        rw [hkind i (by omega), ← g.md i hi]
        have : c'.m = c.m.set x u := by rw [hc]; exact hu
        rw [this, getD_set' _ _ _ _ hi]
        by_cases e : x = i
        · rw [if_pos e, if_pos (by omega)]
        · rw [if_neg e, if_neg (by omega)]
      · intro z hz h0
        rw [hc]
        rw [hc] at hz
        exact g.rt z (hsub z (by rw [hc]; exact hz) h0) h0
    · unfold C.absF
      simp only [hu, List.length_set, St.mk.injEq, true_and, and_true]
      rw [List.map_set]
      rfl
  · have : ((c.absF n).at l) = none := by
      cases h : (c.absF n).at l with
      | none => rfl
      | some v => exact absurd (h1.2 (by rw [h]; rfl)) hh
    rw [if_neg hh, if_pos (by simp), this, if_neg (by simp)]
    exact ⟨g, rfl, rfl, rfl, rfl, rfl⟩
end Go.Proofs.Ytbelcgjbhpjnpaa.Sh
