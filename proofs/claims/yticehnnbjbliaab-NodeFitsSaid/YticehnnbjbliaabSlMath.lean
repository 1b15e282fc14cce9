/- payloads with records, in plain lists. -/
import Derived.Test.YticehnnbjbliaabKit
namespace Go.Proofs.Yticehnnbjbliaab.Sl
open Go.RowKit

/-- two bytes of a number -/
def two8 (n : Nat) : List UInt8 := [UInt8.ofNat (n / 256), UInt8.ofNat n]
/-- a number of two bytes -/
def at2 (b : List UInt8) (k : Nat) : Nat := (b.getD k 0).toNat * 256 + (b.getD (k + 1) 0).toNat
abbrev Slot := Nat × Nat
def slot (b : List UInt8) (i : Nat) : Slot := (at2 b (4 + 4 * i), at2 b (6 + 4 * i))
def slots (b : List UInt8) : List Slot := (List.range (at2 b 0)).map (slot b)
def apart (x y : Slot) : Bool := decide (x.2 = 0) || (decide (y.2 = 0) || (decide (x.1 + x.2 ≤ y.1) || decide (y.1 + y.2 ≤ x.1)))
/-- the slots of a list are in the heap, and apart -/
structure Fit (heap : Nat) (l : List Slot) : Prop where
  lies : ∀ x ∈ l, heap ≤ x.1 ∧ x.1 + x.2 ≤ 232
  apart : l.Pairwise fun x y => Sl.apart x y = true
structure Sound (b : List UInt8) : Prop where
  len : b.length = 232
  heap : at2 b 2 ≤ 232
  head : 4 + 4 * at2 b 0 ≤ at2 b 2
  fit : Fit (at2 b 2) (slots b)
def lenSum (l : List Slot) : Nat := (l.map Prod.snd).sum
def rec1 (b : List UInt8) (x : Slot) : List UInt8 := (b.drop x.1).take x.2
def recs (b : List UInt8) : List (List UInt8) := (slots b).map (rec1 b)
theorem at2_lt (b : List UInt8) (k : Nat) : at2 b k < 65536 := by
  have h1 := (b.getD k 0).toNat_lt
  have h2 := (b.getD (k + 1) 0).toNat_lt
  unfold at2; omega
theorem slots_length (b : List UInt8) : (slots b).length = at2 b 0 := by simp [slots]
theorem slots_get (b : List UInt8) (i : Nat) (h : i < at2 b 0) : (slots b)[i]? = some (slot b i) := by simp [slots, h]
theorem apart_comm (x y : Slot) : apart x y = apart y x := by
  unfold apart
  cases h1 : decide (x.2 = 0) <;> cases h2 : decide (y.2 = 0) <;> cases h3 : decide (x.1 + x.2 ≤ y.1) <;> cases h4 : decide (y.1 + y.2 ≤ x.1) <;> rfl
theorem apart_iff (x y : Slot) : apart x y = true ↔ x.2 = 0 ∨ y.2 = 0 ∨ x.1 + x.2 ≤ y.1 ∨ y.1 + y.2 ≤ x.1 := by simp [apart]
/-- two slots share a byte, if they are not apart -/
theorem apart_no (x y : Slot) : apart x y = false ↔ ∃ k, (x.1 ≤ k ∧ k < x.1 + x.2) ∧ (y.1 ≤ k ∧ k < y.1 + y.2) := by
  constructor
  · intro h
    have : ¬ (x.2 = 0 ∨ y.2 = 0 ∨ x.1 + x.2 ≤ y.1 ∨ y.1 + y.2 ≤ x.1) := by rw [← apart_iff]; simp [h]
    refine ⟨max x.1 y.1, ⟨by omega, by omega⟩, ⟨by omega, by omega⟩⟩
  · rintro ⟨k, h1, h2⟩
    cases h : apart x y
    · rfl
    · rw [apart_iff] at h; omega
def apartAll (l : List Slot) (x : Slot) : Bool := l.all fun y => apart x y
def fitB (heap : Nat) : List Slot → List Slot → Bool
  | _, [] => true
  | p, x :: l => decide (heap ≤ x.1) && (decide (x.1 + x.2 ≤ 232) && (apartAll p x && fitB heap (p ++ [x]) l))
def soundB (b : List UInt8) : Bool := decide (b.length = 232) && (decide (at2 b 2 ≤ 232) && (decide (4 + 4 * at2 b 0 ≤ at2 b 2) && fitB (at2 b 2) [] (slots b)))
theorem Fit.snoc {heap : Nat} {p : List Slot} {x : Slot} : Fit heap (p ++ [x]) ↔ Fit heap p ∧ (heap ≤ x.1 ∧ x.1 + x.2 ≤ 232) ∧ ∀ y ∈ p, Sl.apart x y = true := by
  constructor
  · rintro ⟨h1, h2⟩
    rw [List.pairwise_append] at h2
    exact ⟨⟨fun y hy => h1 y (by simp [hy]), h2.1⟩, h1 x (by simp), fun y hy => by rw [apart_comm]; exact h2.2.2 y hy x (by simp)⟩
  · rintro ⟨⟨h1, h2⟩, h3, h4⟩
    refine ⟨fun y hy => ?_, ?_⟩
    · rcases List.mem_append.1 hy with h | h
      · exact h1 y h
      · simp at h; subst h; exact h3
    · rw [List.pairwise_append]
      exact ⟨h2, by simp, fun y hy z hz => by simp at hz; subst hz; rw [apart_comm]; exact h4 y hy⟩
theorem Fit.nil (heap : Nat) : Fit heap [] := ⟨fun x h => by simp at h, by simp⟩
theorem fitB_iff (heap : Nat) (l : List Slot) : ∀ p : List Slot, Fit heap p → (fitB heap p l = true ↔ Fit heap (p ++ l)) := by
  induction l with
  | nil => intro p h; simp [fitB, h]
  | cons x l ih =>
    intro p h
    have key : (heap ≤ x.1 ∧ x.1 + x.2 ≤ 232 ∧ apartAll p x = true) ↔ Fit heap (p ++ [x]) := by
      rw [Fit.snoc]
      simp only [apartAll, List.all_eq_true]
      exact ⟨fun ⟨h1, h2, h3⟩ => ⟨h, ⟨h1, h2⟩, h3⟩, fun ⟨_, ⟨h1, h2⟩, h3⟩ => ⟨h1, h2, h3⟩⟩
    simp only [fitB, Bool.and_eq_true, decide_eq_true_eq]
    constructor
    · rintro ⟨h1, h2, h3, h4⟩
      have hf := key.1 ⟨h1, h2, h3⟩
      have := (ih _ hf).1 h4
      simpa using this
    · intro hf
      have hp : Fit heap (p ++ [x]) := by
        refine ⟨fun y hy => hf.lies y (by simp at hy ⊢; rcases hy with h | h <;> simp [h]), ?_⟩
        have := hf.apart
        rw [show p ++ x :: l = (p ++ [x]) ++ l by simp, List.pairwise_append] at this
        exact this.1
      obtain ⟨h1, h2, h3⟩ := key.2 hp
      exact ⟨h1, h2, h3, (ih _ hp).2 (by simpa using hf)⟩
theorem soundB_iff (b : List UInt8) : soundB b = true ↔ Sound b := by
  have h := fitB_iff (at2 b 2) (slots b) [] (Fit.nil _)
  rw [List.nil_append] at h
  simp only [soundB, Bool.and_eq_true, decide_eq_true_eq, h]
  exact ⟨fun ⟨h1, h2, h3, h4⟩ => ⟨h1, h2, h3, h4⟩, fun h => ⟨h.len, h.heap, h.head, h.fit⟩⟩
def checkF (b : List UInt8) : Int := if b.length = 232 then (if soundB b then 0 else 14) else 6
theorem checkF_ok (b : List UInt8) : checkF b = 0 ↔ Sound b := by
  rw [← soundB_iff]
  unfold checkF
  constructor
  · intro h
    split at h
    · split at h
      · assumption
      · cases h
    · cases h
  · intro h
    have := ((soundB_iff b).1 h).len
    rw [if_pos this, if_pos h]
def roomF (b : List UInt8) : Int := 228 - ((((slots b).map fun x => 4 + x.2).sum : Nat) : Int)

/-! disjoint parts of a row -/
/-- the lengths of slots that are apart, in the heap, have room there -/
def cover (l : List Slot) (k : Nat) : Bool := l.any fun x => decide (x.1 ≤ k) && decide (k < x.1 + x.2)
theorem count_range (a n m : Nat) (h : a + n ≤ m) : ((List.range m).countP fun k => decide (a ≤ k) && decide (k < a + n)) = n := by
  induction m generalizing n with
  | zero => have : n = 0 := by omega
            subst this; simp
  | succ m ih =>
    rw [List.range_succ, List.countP_append]
    rcases Nat.lt_or_ge (a + n) (m + 1) with h1 | h1
    · rw [ih n (by omega)]
      simp; omega
    · obtain rfl | hn : n = 0 ∨ 0 < n := Nat.eq_zero_or_pos n
      · have : (List.range m).countP (fun k => decide (a ≤ k) && decide (k < a + 0)) = 0 := by
          rw [List.countP_eq_zero]; intro k _; simp <;> omega
        rw [this]; simp <;> omega
      · have e : (List.range m).countP (fun k => decide (a ≤ k) && decide (k < a + n)) = (List.range m).countP (fun k => decide (a ≤ k) && decide (k < a + (n - 1))) := by
          apply List.countP_congr
          intro k hk
          have := List.mem_range.1 hk
          simp; omega
        rw [e, ih (n - 1) (by omega)]
        simp
        have : a ≤ m ∧ m < a + n := by omega
        simp [this]; omega
theorem count_cover (l : List Slot) (heap : Nat) (h : Fit heap l) : (List.range 232).countP (cover l) = lenSum l := by
  induction l with
  | nil => simp [cover, lenSum]
  | cons x l ih =>
    have hx := h.lies x (by simp)
    have hp := List.pairwise_cons.1 h.apart
    have ht : Fit heap l := ⟨fun y hy => h.lies y (by simp [hy]), hp.2⟩
    have e : (List.range 232).countP (cover (x :: l)) = (List.range 232).countP (fun k => decide (x.1 ≤ k) && decide (k < x.1 + x.2)) + (List.range 232).countP (cover l) := by
      generalize List.range 232 = r
      induction r with
      | nil => rfl
      | cons k r ihr =>
        simp only [List.countP_cons, ihr]
        have hdis : ¬ ((x.1 ≤ k ∧ k < x.1 + x.2) ∧ cover l k = true) := by
          rintro ⟨h1, h2⟩
          simp only [cover, List.any_eq_true, Bool.and_eq_true, decide_eq_true_eq] at h2
          obtain ⟨y, hy, h3⟩ := h2
          have hn := (apart_no x y).2 ⟨k, h1, h3⟩
          rw [hp.1 y hy] at hn; cases hn
        have ec : cover (x :: l) k = ((decide (x.1 ≤ k) && decide (k < x.1 + x.2)) || cover l k) := rfl
        rw [ec]
        cases h1 : (decide (x.1 ≤ k) && decide (k < x.1 + x.2)) <;> cases h2 : cover l k
        · simp
        · simp; omega
        · simp; omega
        · exfalso; apply hdis; simp at h1; exact ⟨h1, h2⟩
    rw [e, count_range _ _ _ hx.2, ih ht]
    simp [lenSum]
theorem lenSum_le (l : List Slot) (heap : Nat) (h : Fit heap l) (hh : heap ≤ 232) : lenSum l ≤ 232 - heap := by
  rw [← count_cover l heap h]
  have e : (List.range 232).countP (cover l) ≤ (List.range 232).countP (fun k => decide (heap ≤ k) && decide (k < heap + (232 - heap))) := by
    apply List.countP_mono_left
    intro k hk hc
    simp only [cover, List.any_eq_true, Bool.and_eq_true, decide_eq_true_eq] at hc
    obtain ⟨y, hy, h3⟩ := hc
    have := h.lies y hy
    have := List.mem_range.1 hk
    simp; omega
  have := count_range heap (232 - heap) 232 (by omega)
  omega
end Go.Proofs.Yticehnnbjbliaab.Sl
