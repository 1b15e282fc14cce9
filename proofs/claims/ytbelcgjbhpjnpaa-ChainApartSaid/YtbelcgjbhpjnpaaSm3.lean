/- the healthy store: a page is made. -/
import Derived.Test.YtbelcgjbhpjnpaaSm2
namespace Go.Proofs.Ytbelcgjbhpjnpaa.Sh
open Go.RowKit Pk Dk Pg
theorem findIdx_via {α β : Type} (f : α → β) (p : β → Bool) (q : α → Bool) : ∀ (t : List α), (∀ x ∈ t, p (f x) = q x) → (t.map f).findIdx p = t.findIdx q
  | [], _ => rfl
  | x :: t, h => by
    have h0 := h x (List.mem_cons_self ..)
    have ih := findIdx_via f p q t (fun y hy => h y (List.mem_cons_of_mem _ hy))
    rw [List.map_cons, List.findIdx_cons, List.findIdx_cons, h0, ih]
theorem slot_get {t : List Int} (h : slotF t < t.length) : t[slotF t]? = some (-1) := by
  unfold slotF Fm.firstF at h ⊢
  have := List.findIdx_getElem (p := (· == (-1 : Int))) (xs := t) (w := h)
  rw [List.getElem?_eq_getElem h]
  simpa using this
theorem get_putT {α : Type} (t : List α) (l : Nat) (u : α) (hl : l ≤ t.length) (i : Nat) : (putS t l u)[i]? = if i = l then some u else t[i]? := by
  unfold putS
  by_cases h : l = t.length
  · rw [if_pos h]
    subst h
    rcases Nat.lt_trichotomy i t.length with h1 | rfl | h1
    · rw [if_neg (by omega), List.getElem?_append_left h1]
    · rw [if_pos rfl, List.getElem?_append_right (Nat.le_refl _)]; simp
    · rw [if_neg (by omega), List.getElem?_append_right (by omega), List.getElem?_eq_none (by simp; omega), List.getElem?_eq_none (by omega)]
  · rw [if_neg h, List.getElem?_set]
    by_cases e : l = i
    · subst e; rw [if_pos rfl, if_pos (by omega), if_pos rfl]
    · rw [if_neg e, if_neg (by omega)]
theorem putT_eq (t : List Int) (l : Nat) (u : Int) : putT t l u = putS t l u := rfl
theorem mem_putT {t : List Int} {u x : Int} (h0 : 0 ≤ x) : x ∈ putT t (slotF t) u ↔ x = u ∨ x ∈ t := by
  rw [putT_eq]
  have hl := slotF_le t
  constructor
  · intro hx
    obtain ⟨i, hi⟩ := List.getElem?_of_mem hx
    rw [get_putT t _ u hl] at hi
    split at hi
    · injection hi with hi; exact .inl hi.symm
    · exact .inr (List.mem_of_getElem? hi)
  · rintro (rfl | hx)
    · have := get_putT t _ x hl (slotF t)
      rw [if_pos rfl] at this
      exact List.mem_of_getElem? this
    · obtain ⟨i, hi⟩ := List.getElem?_of_mem hx
      have := get_putT t _ u hl i
      rw [if_neg] at this
      · exact List.mem_of_getElem? (this.trans hi)
      · rintro rfl
        have hlt : slotF t < t.length := (List.getElem?_eq_some_iff.1 hi).1
        rw [slot_get hlt] at hi
        injection hi with hi
        omega
theorem Inj.putT {t : List Int} (h : Inj t) (l : Nat) (u : Int) (hu : u ∉ t) : Inj (putT t l u) := by
  unfold Sh.putT
  split
  · exact h.app u (.inr hu)
  · exact h.set_ l u (.inr hu)
theorem putS_map {α β : Type} (f : α → β) (t : List α) (l : Nat) (u : α) : (putS t l u).map f = putS (t.map f) l (f u) := by
  unfold putS
  rw [List.length_map]
  split
  · simp
  · rw [List.map_set]
theorem putS_congr {α β : Type} (f g : α → β) (t : List α) (l : Nat) (u : β) (h : ∀ x ∈ t, f x = g x) : putS (t.map f) l u = putS (t.map g) l u := by
  rw [List.map_congr_left h]
theorem abs_slot {c : C} {n : Nat} (g : Good c n) : (c.absF n).slot = slotF c.table := by
  unfold St.slot C.absF slotF Fm.firstF
  refine findIdx_via _ _ _ _ (fun x hx => ?_)
  unfold C.slotOf
  rcases g.ti x hx with rfl | ⟨h0, _⟩
  · simp
  · rw [if_neg (by omega)]
    simp; omega
theorem take_free {c : C} {n : Nat} (g : Good c n) (hf : (c.absF n).free ≠ 0) : ∃ k : Nat, k < c.m.length ∧ kindOf c k = 0 ∧ Fm.takeF c.m = (c.m.set k 2, ((k : Nat) : Int), 0) := by
  have hl := (free_count g).1
  obtain ⟨x, hx⟩ : ∃ x, x ∈ Fm.listF c.m 0 := by
    cases h : Fm.listF c.m 0 with
    | nil => rw [h] at hl; simp at hl; omega
    | cons x l => exact ⟨x, List.mem_cons_self ..⟩
  obtain ⟨i, rfl, hi, h0⟩ := mem_listF.1 hx
  have hlt : Fm.firstF c.m 0 < c.m.length := by
    unfold Fm.firstF
    rw [List.findIdx_lt_length]
    refine ⟨c.m[i], List.getElem_mem hi, ?_⟩
    simp [List.getD, List.getElem?_eq_getElem hi] at h0
    simp [h0]
  refine ⟨Fm.firstF c.m 0, hlt, ?_, by unfold Fm.takeF; rw [if_pos hlt]⟩
  rw [← g.md _ hlt]
  have := List.findIdx_getElem (p := (· == (0 : Int))) (xs := c.m) (w := hlt)
  simp [List.getD]
  unfold Fm.firstF at hlt ⊢
  rw [List.getElem?_eq_getElem hlt]
  simpa using this
theorem take_full {c : C} {n : Nat} (g : Good c n) (hf : (c.absF n).free = 0) : Fm.takeF c.m = (c.m, 0, 11) := by
  have hl := (free_count g).1
  rw [hf] at hl
  unfold Fm.takeF
  rw [if_neg]
  intro hlt
  have := List.findIdx_getElem (p := (· == (0 : Int))) (xs := c.m) (w := hlt)
  have hm : ((Fm.firstF c.m 0 : Nat) : Int) ∈ Fm.listF c.m 0 := mem_listF.2 ⟨_, rfl, hlt, by
    simp [List.getD]
    unfold Fm.firstF at hlt ⊢
    rw [List.getElem?_eq_getElem hlt]
    simpa using this⟩
  rw [List.eq_nil_of_length_eq_zero hl] at hm
  simp at hm
theorem kind0 {c : C} {x : Int} (h : kindOf c x = 0) : x ∉ c.parts ∧ x ∉ c.old ∧ x ∉ c.table := by
  unfold kindOf at h
  split at h
  · omega
  · split at h
    · split at h <;> omega
    · split at h
      · omega
      · exact ⟨by assumption, by assumption, by assumption⟩
theorem page_many {c : C} {n : Nat} (g : Good c n) {k : Nat} (h : k < c.m.length) : k < manyF n := by
  have := g.ml
  unfold pagesF at this
  omega
theorem pwrite_okD {d : D} {n : Nat} (h : d.Ok n) (id ep kd : Int) (s : List UInt8) : (pwriteF d n id ep kd s).1.Ok n := by
  unfold pwriteF
  split
  · exact h
  · split
    · exact h
    · exact w4_okD h _ _ _
/-- a page that is free is written -/
theorem write_free {c : C} {n : Nat} (g : Good c n) {k : Nat} (hk : k < c.m.length) (h0 : kindOf c k = 0) (p : List UInt8) (hp : p.length ≤ 232) :
    (pwriteF c.d n k (c.ep + 1) 2 p).2 = 0 ∧ ∀ d', d' = (pwriteF c.d n k (c.ep + 1) 2 p).1 → d'.down = false ∧ d'.armed = 0 ∧ d'.Ok n ∧ d'.calls ≤ c.d.calls + 4 ∧ preadF d' n k = (⟨k, c.ep + 1, 2, padL p 232⟩, 0) ∧
      (∀ x ∈ c.table, 0 ≤ x → preadF d' n x = preadF c.d n x) ∧ ∀ x ∈ c.old, 0 ≤ x → preadF d' n x = preadF c.d n x := by
  have e := g.ep
  obtain ⟨h1, h2, h3, h4, h5⟩ := write_read g.ok g.up g.arm k (c.ep + 1) 2 p (page_many g hk) (by rw [okP_iff]; omega) hp
  obtain ⟨z1, z2, z3⟩ := kind0 h0
  refine ⟨h1, fun d' hd => ?_⟩
  subst hd
  refine ⟨h2, h3, pwrite_okD g.ok _ _ _ _, (pwrite_bd _ _ _ _ _ _ (by rw [g.arm]; omega)).1, h4, fun x hx hx0 => ?_, fun x hx hx0 => ?_⟩
  · have := g.ti x hx
    have := h5 x.toNat (page_many g (by omega)) (fun e => z3 (by rw [← e]; rwa [show ((x.toNat : Nat) : Int) = x by omega]))
    rwa [show ((x.toNat : Nat) : Int) = x by omega] at this
  · have := g.oi x hx
    have := h5 x.toNat (page_many g (by omega)) (fun e => z2 (by rw [← e]; rwa [show ((x.toNat : Nat) : Int) = x by omega]))
    rwa [show ((x.toNat : Nat) : Int) = x by omega] at this
theorem padL_length (p : List UInt8) (h : p.length ≤ 232) : (padL p 232).length = 232 := by unfold padL; simp; omega
theorem getD_set' (l : List Int) (k : Nat) (x : Int) (i : Nat) (hi : i < l.length) : (l.set k x).getD i 0 = if k = i then x else l.getD i 0 := by
  simp only [List.getD, List.getElem?_set]
  by_cases h : k = i
  · subst h; simp [hi]
  · simp [h]
/-- the store behind a page that was made in a place of the table -/
theorem new_ok {c : C} {n : Nat} (g : Good c n) {k : Nat} (hk : k < c.m.length) (h0 : kindOf c k = 0) (p : List UInt8) (hp : p.length ≤ 232) {d' : D} (hd : d' = (pwriteF c.d n k (c.ep + 1) 2 p).1) {c' : C} (hc : c' = { c with m := c.m.set k 2, d := d', table := putT c.table (slotF c.table) k }) :
    Good c' n ∧ c'.absF n = { c.absF n with now := putS (c.absF n).now (slotF c.table) (some (true, padL p 232)) } := by
  obtain ⟨_, W⟩ := write_free g hk h0 p hp
  obtain ⟨w1, w2, w3, w4, w5, w6, w7⟩ := W d' hd
  obtain ⟨z1, z2, z3⟩ := kind0 h0
  have hep := g.ep
  have mt : ∀ x, 0 ≤ x → (x ∈ c'.table ↔ x = k ∨ x ∈ c.table) := fun x hx => by subst hc; exact mem_putT hx
  have hsl := slotF_le c.table
  have hkind : ∀ x : Int, 0 ≤ x → kindOf c' x = if x = k then 2 else kindOf c x := by
    intro x hx
    unfold kindOf
    by_cases e : x = k
    · rw [if_pos e]
      subst e
      rw [if_neg (by subst hc; exact z1), if_neg (by subst hc; exact z2), if_pos ((mt _ hx).2 (.inl rfl))]
    · rw [if_neg e]
      have : (x ∈ c'.table) ↔ x ∈ c.table := (mt x hx).trans ⟨fun h => h.resolve_left e, .inr⟩
      rw [show c'.parts = c.parts from by rw [hc], show c'.old = c.old from by rw [hc]]
      simp only [this]
  refine ⟨⟨by rw [hc]; exact w1, by rw [hc]; exact w2, by rw [hc]; exact g.br, by rw [hc]; exact w3, ?_, by rw [hc]; exact g.ep, by rw [hc]; exact g.sl, ?_, ?_, ?_, ?_, by rw [hc]; exact g.oj, by rw [hc]; exact g.pj, ?_, by rw [hc]; exact g.pl, ?_, ?_, ?_, ?_⟩, ?_⟩
  · rw [hc]; show (c.m.set k 2).length = _; rw [List.length_set]; exact g.ml
  · intro x hx
    have hml : c'.m.length = c.m.length := by rw [hc]; show (c.m.set k 2).length = _; rw [List.length_set]
    rw [hml]
    by_cases h : 0 ≤ x
    · rcases (mt x h).1 hx with rfl | hx
      · omega
      · exact g.ti x hx
    · obtain ⟨i, hi⟩ := List.getElem?_of_mem hx
      rw [hc] at hi
      have hi : (putT c.table (slotF c.table) k)[i]? = some x := hi
      rw [putT_eq, get_putT _ _ _ hsl] at hi
      split at hi
      · injection hi with hi; omega
      · exact g.ti x (List.mem_of_getElem? hi)
  · intro x hx
    rw [hc] at hx ⊢
    show _ ∨ _ ∧ x < ((c.m.set k 2).length : Int)
    rw [List.length_set]; exact g.oi x hx
  · intro x hx
    rw [hc] at hx ⊢
    show _ ∧ x < ((c.m.set k 2).length : Int)
    rw [List.length_set]; exact g.pi x hx
  · rw [hc]; exact g.tj.putT _ _ z3
  · intro x hx
    have h := g.dt x (by rw [hc] at hx; exact hx)
    have hx0 := (g.pi x (by rw [hc] at hx; exact hx)).1
    refine ⟨fun h1 => ?_, by rw [hc]; exact h.2⟩
    rcases (mt x hx0).1 h1 with rfl | h1
    · rw [hc] at hx; exact z1 hx
    · exact h.1 h1
  · intro i x hi hx ho
    rw [hc] at hi ho ⊢
    have hi : (putT c.table (slotF c.table) k)[i]? = some x := hi
    rw [putT_eq, get_putT _ _ _ hsl] at hi
    split at hi
    · injection hi with hi
      subst hi
      exact absurd ho z2
    · exact g.sm i x hi hx ho
  · intro i hi
    have hi : i < c.m.length := by rw [hc] at hi; simpa using hi
    rw [hkind i (by omega), ← g.md i hi, hc]
    show (c.m.set k 2).getD i 0 = _
    rw [getD_set' _ _ _ _ hi]
    by_cases e : k = i
    · rw [if_pos e, if_pos (by omega)]
    · rw [if_neg e, if_neg (by omega)]
  · intro x hx hx0
    rcases (mt x hx0).1 hx with rfl | hx
    · rw [hc]; exact ⟨c.ep + 1, _, by omega, Int.le_refl _, padL_length p hp, w5⟩
    · obtain ⟨q, s, q1, q2, q3, q4⟩ := g.rt x hx hx0
      rw [hc]
      exact ⟨q, s, q1, q2, q3, (w6 x hx hx0).trans q4⟩
  · intro x hx hx0
    rw [hc] at hx ⊢
    obtain ⟨q, s, q1, q2, q3, q4⟩ := g.ro x hx hx0
    exact ⟨q, s, q1, q2, q3, (w7 x hx hx0).trans q4⟩
  · rw [hc]
    unfold C.absF
    simp only [List.length_set, St.mk.injEq, true_and, and_true]
    refine ⟨?_, ?_⟩
    · rw [putT_eq, putS_map]
      have e1 : C.slotOf { c with m := c.m.set k 2, d := d', table := putS c.table (slotF c.table) k } n (k : Int) = some (true, padL p 232) := by
        unfold C.slotOf
        rw [if_neg (by omega)]
        simp only [w5]
        simp [z2]
      rw [e1]
      refine putS_congr _ _ _ _ _ (fun x hx => ?_)
      unfold C.slotOf
      by_cases h : x < 0
      · rw [if_pos h, if_pos h]
      · rw [if_neg h, if_neg h]
        simp only [w6 x hx (by omega)]
    · refine List.map_congr_left (fun x hx => ?_)
      by_cases h : x < 0
      · rw [if_pos h, if_pos h]
      · rw [if_neg h, if_neg h]
        simp only [w7 x hx (by omega)]
theorem new_good {c : C} {n : Nat} (g : Good c n) (p : List UInt8) :
    Good (c.newF n p).1 n ∧ (c.newF n p).1.absF n = ((c.absF n).newF p).1 ∧ (c.newF n p).2 = ((c.absF n).newF p).2 ∧ (c.newF n p).1.d.calls ≤ c.d.calls + 4 ∧ (c.newF n p).1.old = c.old ∧ (c.newF n p).1.parts = c.parts := by
  unfold C.newF St.newF
  rw [if_neg (by rw [g.br]; simp), abs_slot g]
  by_cases h1 : 232 < p.length
  · rw [if_pos h1, if_pos h1]
    exact ⟨g, rfl, rfl, by show c.d.calls ≤ _; omega, rfl, rfl⟩
  rw [if_neg h1, if_neg h1]
  by_cases h2 : 512 ≤ slotF c.table
  · rw [if_pos h2, if_pos (.inl h2)]
    exact ⟨g, rfl, rfl, by show c.d.calls ≤ _; omega, rfl, rfl⟩
  rw [if_neg h2]
  by_cases h3 : (c.absF n).free = 0
  · have ht := take_full g h3
    have hf : c.freshF n p = (c, 0, 11) := by
      unfold C.freshF
      rw [ht, if_pos (by simp)]
    rw [hf, if_pos (by simp), if_pos (.inr h3)]
    exact ⟨g, rfl, rfl, by show c.d.calls ≤ _; omega, rfl, rfl⟩
  · obtain ⟨k, hk, h0, ht⟩ := take_free g h3
    obtain ⟨W0, W⟩ := write_free g hk h0 p (by omega)
    have hf : c.freshF n p = ({ c with m := c.m.set k 2, d := (pwriteF c.d n k (c.ep + 1) 2 p).1 }, (k : Int), 0) := by
      unfold C.freshF
      rw [ht, if_neg (by simp), if_neg (by rw [W0]; simp)]
    rw [hf, if_neg (by simp), if_neg (by omega)]
    obtain ⟨G, e⟩ := new_ok g hk h0 p (by omega) rfl (c' := { c with m := c.m.set k 2, d := (pwriteF c.d n k (c.ep + 1) 2 p).1, table := putT c.table (slotF c.table) k }) rfl
    exact ⟨G, e, rfl, (W _ rfl).2.2.2.1, rfl, rfl⟩
end Go.Proofs.Ytbelcgjbhpjnpaa.Sh
