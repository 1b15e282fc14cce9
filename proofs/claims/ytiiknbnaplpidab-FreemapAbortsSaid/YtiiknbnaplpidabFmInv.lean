/- what was committed, and what has become of it since. -/
import Derived.Test.YtiiknbnaplpidabFmLaw
namespace Go.Proofs.Ytiiknbnaplpidab.Fm
open Go.RowKit
/-- c: what was committed; l: what has become of it by leaving, taking and aborting -/
structure Since (c l : List Int) : Prop where
  len : l.length = c.length
  each : ∀ i, i < c.length → (c.getD i 0 = 1 ∧ (l.getD i 0 = 1 ∨ l.getD i 0 = 3)) ∨ (c.getD i 0 = 0 ∧ (l.getD i 0 = 0 ∨ l.getD i 0 = 2))
theorem getD_set (l : List Int) (k : Nat) (x : Int) (i : Nat) : (l.set k x).getD i 0 = if k = i ∧ k < l.length then x else l.getD i 0 := by
  simp only [List.getD, List.getElem?_set]
  by_cases h : k = i
  · subst h
    by_cases h2 : k < l.length
    · simp [h2]
    · simp [h2, List.getElem?_eq_none (Nat.le_of_not_lt h2)]
  · simp [h]
theorem getD_turn (a b : Int) (l : List Int) (i : Nat) : (turnF a b l).getD i 0 = turnOne a b (l.getD i 0) := by
  simp only [List.getD, turnF, List.getElem?_map]
  cases l[i]? <;> simp [turnOne]
theorem getD_mem (l : List Int) (i : Nat) (h : i < l.length) : l.getD i 0 ∈ l := by
  simp only [List.getD, List.getElem?_eq_getElem h, Option.getD_some]; exact List.getElem_mem h
theorem list_ext (l m : List Int) (hl : l.length = m.length) (h : ∀ i, i < l.length → l.getD i 0 = m.getD i 0) : l = m := by
  apply List.ext_getElem hl
  intro i h1 h2
  have := h i h1
  simpa [List.getD, List.getElem?_eq_getElem h1, List.getElem?_eq_getElem h2] using this
theorem Since.start {l : List Int} (h : OkL l) : Since (turnF 0 1 l) (turnF 0 1 l) := by
  refine ⟨rfl, fun i hi => ?_⟩
  rw [turnF_length] at hi
  have := h _ (getD_mem l i hi)
  rw [getD_turn]
  unfold turnOne
  rcases this with h | h | h | h <;> rw [h] <;> decide
theorem Since.back {c l : List Int} (h : Since c l) : turnF 1 0 l = c := by
  refine list_ext _ _ (by rw [turnF_length, h.len]) fun i hi => ?_
  rw [turnF_length, h.len] at hi
  rw [getD_turn]
  unfold turnOne
  rcases h.each i hi with ⟨h1, h2 | h2⟩ | ⟨h1, h2 | h2⟩ <;> rw [h1, h2] <;> decide
theorem Since.self {c l : List Int} (h : Since c l) : Since c c :=
  ⟨rfl, fun i hi => by rcases h.each i hi with ⟨h1, _⟩ | ⟨h1, _⟩ <;> simp only [h1] <;> decide⟩
theorem Since.set_ {c l : List Int} (h : Since c l) (k : Nat) (x : Int) (hx : k < c.length → (c.getD k 0 = 1 ∧ (x = 1 ∨ x = 3)) ∨ (c.getD k 0 = 0 ∧ (x = 0 ∨ x = 2))) : Since c (l.set k x) := by
  refine ⟨by rw [List.length_set, h.len], fun i hi => ?_⟩
  rw [getD_set]
  split
  · rename_i hk
    obtain ⟨rfl, hk⟩ := hk
    exact hx hi
  · exact h.each i hi
theorem Since.leave {c l : List Int} (h : Since c l) (i : Int) : Since c (leaveF l i).1 := by
  unfold leaveF
  split
  · split
    · rename_i h2
      refine h.set_ _ _ fun hk => ?_
      rcases h.each _ hk with ⟨h1, h3⟩ | ⟨h1, h3⟩
      · omega
      · exact .inr ⟨h1, .inl rfl⟩
    · split
      · rename_i h2
        refine h.set_ _ _ fun hk => ?_
        rcases h.each _ hk with ⟨h1, h3⟩ | ⟨h1, h3⟩
        · exact .inl ⟨h1, .inr rfl⟩
        · omega
      · exact h
  · exact h
theorem first_get (l : List Int) (k : Int) (h : firstF l k < l.length) : l.getD (firstF l k) 0 = k := by
  have h2 := List.findIdx_getElem (xs := l) (p := (· == k)) (w := h)
  unfold firstF at *
  simp only [List.getD, List.getElem?_eq_getElem h, Option.getD_some]
  simpa using h2
theorem Since.take {c l : List Int} (h : Since c l) : Since c (takeF l).1 := by
  unfold takeF
  split
  · rename_i h2
    have h0 := first_get l 0 h2
    refine h.set_ _ _ fun hk => ?_
    rcases h.each _ hk with ⟨h1, h3⟩ | ⟨h1, h3⟩
    · omega
    · exact .inr ⟨h1, .inr rfl⟩
  · exact h
theorem Since.abort {c l : List Int} (h : Since c l) : Since c (turnF 1 0 l) := by rw [h.back]; exact h.self
theorem listTo_get (l : List Int) (k : Int) (n : Nat) (hn : n ≤ l.length) : ∀ x ∈ listTo l k n, ∃ i : Nat, x = i ∧ i < l.length ∧ l.getD i 0 = k := by
  induction n with
  | zero => intro x hx; simp [listTo] at hx
  | succ n ih =>
    intro x hx
    simp only [listTo, List.mem_append] at hx
    rcases hx with h | h
    · exact ih (by omega) x h
    · split at h
      · rename_i h2
        simp at h
        exact ⟨n, h, by omega, h2⟩
      · simp at h
/-- a page that is taken is none that is kept -/
theorem Since.apart {c l : List Int} (h : Since c l) (hf : firstF l 0 < l.length) : ∀ x ∈ listF c 1, x ≠ (firstF l 0 : Int) := by
  intro x hx e
  obtain ⟨i, rfl, hi, hc⟩ := listTo_get c 1 c.length (Nat.le_refl _) x hx
  have h0 := first_get l 0 hf
  have hi2 : i = firstF l 0 := by omega
  rw [← hi2] at h0
  rcases h.each i hi with ⟨h1, h3⟩ | ⟨h1, h3⟩ <;> omega
/-- nothing fresh, nothing leaving, behind an abort -/
theorem Since.none_ {c l : List Int} (h : Since c l) (k : Int) (hk : k = 2 ∨ k = 3) : listF c k = [] := by
  apply List.eq_nil_iff_forall_not_mem.2
  intro x hx
  obtain ⟨i, rfl, hi, hc⟩ := listTo_get c k c.length (Nat.le_refl _) x hx
  rcases h.each i hi with ⟨h1, _⟩ | ⟨h1, _⟩ <;> omega
theorem acts_of {H : Type} {enc : TypeId × Value → H} {w : World} {base : Nat} {v : Value} {d : DataW H} {ps : List MemPlace} (hok : Value.okWide Try.prog w .any base 22 v) (h : DataW.Trod enc Try.prog w 0 (fun _ => true) true 22 v d ps) :
    ∃ (A : Option Addr) (n c : Nat) (K I : Nat → Int), v = .slice A n c ∧ n ≤ 9223372036854775807 ∧ Acts w A n K I := by
  obtain ⟨A, n, c, K, I, h1, h2, h3⟩ := pairs_view Try.underlying22 Try.underlying32 (by kernel_rfl) rfl rfl (by kernel_rfl) (by kernel_rfl) Try.underlying3 Try.underlying3 hok h
  exact ⟨A, n, c, K, I, h1, by simpa [maxLen] using h2, Acts.of h3⟩
end Go.Proofs.Ytiiknbnaplpidab.Fm
