/- the healthy store: lists of page numbers, plainly. -/
import Derived.Test.YtbelcgjbhpjnpaaGreatSh22
namespace Go.Proofs.YtbelcgjbhpjnpaaGreat.Sh
open Go.RowKit Pk Dk Pg
theorem nodup_le : ∀ (L M : List Int), L.Nodup → (∀ x ∈ L, x ∈ M) → L.length ≤ M.length
  | [], _, _, _ => Nat.zero_le _
  | x :: L, M, hn, hs => by
    obtain ⟨h1, h2⟩ := List.nodup_cons.1 hn
    have hx : x ∈ M := hs x (List.mem_cons_self ..)
    have := nodup_le L (M.erase x) h2 (fun y hy => (List.mem_erase_of_ne (fun e : y = x => h1 (by rw [← e]; exact hy))).2 (hs y (List.mem_cons_of_mem _ hy)))
    rw [List.length_erase_of_mem hx] at this
    have : 0 < M.length := List.length_pos_of_mem hx
    simp; omega
theorem nodup_eq {L M : List Int} (hl : L.Nodup) (hm : M.Nodup) (h : ∀ x, x ∈ L ↔ x ∈ M) : L.length = M.length :=
  Nat.le_antisymm (nodup_le L M hl (fun x hx => (h x).1 hx)) (nodup_le M L hm (fun x hx => (h x).2 hx))
theorem mem_listTo (l : List Int) (k : Int) (n : Nat) (x : Int) : x ∈ Fm.listTo l k n ↔ ∃ i : Nat, x = i ∧ i < n ∧ l.getD i 0 = k := by
  induction n with
  | zero => simp [Fm.listTo]
  | succ n ih =>
    simp only [Fm.listTo, List.mem_append, ih]
    constructor
    · rintro (⟨i, e, h, g⟩ | h)
      · exact ⟨i, e, by omega, g⟩
      · by_cases hk : l.getD n 0 = k
        · rw [if_pos hk] at h
          exact ⟨n, by simpa using h, by omega, hk⟩
        · rw [if_neg hk] at h
          simp at h
    · rintro ⟨i, e, h, g⟩
      rcases Nat.lt_succ_iff_lt_or_eq.1 h with h | rfl
      · exact .inl ⟨i, e, h, g⟩
      · rw [if_pos g]; exact .inr (by simpa using e)
theorem mem_listF {l : List Int} {k : Int} {x : Int} : x ∈ Fm.listF l k ↔ ∃ i : Nat, x = i ∧ i < l.length ∧ l.getD i 0 = k := mem_listTo l k l.length x
theorem nodup_listTo (l : List Int) (k : Int) (n : Nat) : (Fm.listTo l k n).Nodup := by
  induction n with
  | zero => exact List.nodup_nil
  | succ n ih =>
    simp only [Fm.listTo]
    split
    · rw [List.nodup_append]
      refine ⟨ih, by simp, fun a ha b hb e => ?_⟩
      obtain ⟨i, e1, h, _⟩ := (mem_listTo l k n a).1 ha
      simp at hb
      omega
    · simpa using ih
theorem nodup_listF (l : List Int) (k : Int) : (Fm.listF l k).Nodup := nodup_listTo l k l.length
/-- 0 .. n-1 -/
def upto : Nat → List Int
  | 0 => []
  | n + 1 => upto n ++ [(n : Int)]
theorem upto_length : ∀ n, (upto n).length = n
  | 0 => rfl
  | n + 1 => by simp [upto, upto_length n]
theorem mem_upto (n : Nat) (x : Int) : x ∈ upto n ↔ 0 ≤ x ∧ x < n := by
  induction n with
  | zero => simp [upto]; try omega
  | succ n ih => simp only [upto, List.mem_append, ih, List.mem_singleton]; omega
theorem nodup_upto (n : Nat) : (upto n).Nodup := by
  induction n with
  | zero => exact List.nodup_nil
  | succ n ih =>
    simp only [upto]
    rw [List.nodup_append]
    refine ⟨ih, by simp, fun a ha b hb e => ?_⟩
    have := (mem_upto n a).1 ha
    simp at hb
    omega
/-- no page number stands twice -/
def Inj (t : List Int) : Prop := ∀ (i j : Nat) (x : Int), t[i]? = some x → t[j]? = some x → 0 ≤ x → i = j
def ids (t : List Int) : List Int := t.filter (fun x => decide (0 ≤ x))
theorem mem_ids {t : List Int} {x : Int} : x ∈ ids t ↔ x ∈ t ∧ 0 ≤ x := by simp [ids]
theorem Inj.tail {x : Int} {t : List Int} (h : Inj (x :: t)) : Inj t := fun i j y hi hj h0 => by
  have := h (i + 1) (j + 1) y (by simpa using hi) (by simpa using hj) h0
  omega
theorem ids_nodup : ∀ {t : List Int}, Inj t → (ids t).Nodup
  | [], _ => List.nodup_nil
  | x :: t, h => by
    have ih := ids_nodup h.tail
    unfold ids at ih ⊢
    rw [List.filter_cons]
    split
    · rename_i hx
      rw [List.nodup_cons]
      refine ⟨fun hm => ?_, ih⟩
      obtain ⟨hm, _⟩ := mem_ids.1 hm
      obtain ⟨k, hk⟩ := List.getElem?_of_mem hm
      have := h 0 (k + 1) x rfl (by simpa using hk) (by simpa using hx)
      omega
    · exact ih
theorem Inj.set_ {t : List Int} (h : Inj t) (k : Nat) (u : Int) (hu : u < 0 ∨ u ∉ t) : Inj (t.set k u) := by
  intro i j x hi hj h0
  rw [List.getElem?_set] at hi hj
  by_cases e1 : k = i <;> by_cases e2 : k = j
  · omega
  · rw [if_pos e1] at hi
    rw [if_neg e2] at hj
    split at hi
    · injection hi with hi
      subst hi
      rcases hu with hu | hu
      · omega
      · exact absurd (List.mem_of_getElem? hj) hu
    · cases hi
  · rw [if_neg e1] at hi
    rw [if_pos e2] at hj
    split at hj
    · injection hj with hj
      subst hj
      rcases hu with hu | hu
      · omega
      · exact absurd (List.mem_of_getElem? hi) hu
    · cases hj
  · rw [if_neg e1] at hi
    rw [if_neg e2] at hj
    exact h i j x hi hj h0
theorem Inj.app {t : List Int} (h : Inj t) (u : Int) (hu : u < 0 ∨ u ∉ t) : Inj (t ++ [u]) := by
  intro i j x hi hj h0
  have key : ∀ i, (t ++ [u])[i]? = some x → (t[i]? = some x) ∨ (i = t.length ∧ x = u) := by
    intro i hi
    rcases Nat.lt_trichotomy i t.length with hl | rfl | hl
    · rw [List.getElem?_append_left hl] at hi; exact .inl hi
    · rw [List.getElem?_append_right (Nat.le_refl _)] at hi
      simp at hi
      exact .inr ⟨rfl, hi.symm⟩
    · rw [List.getElem?_append_right (by omega), List.getElem?_eq_none (by simp; omega)] at hi; cases hi
  rcases key i hi with a | ⟨a, b⟩ <;> rcases key j hj with c | ⟨c, d⟩
  · exact h i j x a c h0
  · subst d
    rcases hu with hu | hu
    · omega
    · exact absurd (List.mem_of_getElem? a) hu
  · subst b
    rcases hu with hu | hu
    · omega
    · exact absurd (List.mem_of_getElem? c) hu
  · omega
theorem mem_set_iff {t : List Int} {k : Nat} {u x : Int} (h : Inj t) (hk : t[k]? = some u) (v : Int) (h0 : 0 ≤ x) (hv : v < 0) (hu : 0 ≤ u) : x ∈ t.set k v ↔ x ∈ t ∧ x ≠ u := by
  constructor
  · intro hx
    obtain ⟨i, hi⟩ := List.getElem?_of_mem hx
    rw [List.getElem?_set] at hi
    by_cases e : k = i
    · rw [if_pos e] at hi
      split at hi
      · injection hi with hi; omega
      · cases hi
    · rw [if_neg e] at hi
      refine ⟨List.mem_of_getElem? hi, fun e2 => e ?_⟩
      subst e2
      exact h k i x hk hi h0
  · rintro ⟨hx, hne⟩
    obtain ⟨i, hi⟩ := List.getElem?_of_mem hx
    have : (t.set k v)[i]? = some x := by
      rw [List.getElem?_set, if_neg (fun e => hne (by subst e; rw [hk] at hi; injection hi with hi; exact hi.symm))]
      exact hi
    exact List.mem_of_getElem? this
end Go.Proofs.YtbelcgjbhpjnpaaGreat.Sh
