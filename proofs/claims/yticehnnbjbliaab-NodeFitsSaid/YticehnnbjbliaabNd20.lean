/- nodes: the order of keys. -/
import Derived.Test.YticehnnbjbliaabNd19
namespace Go.Proofs.Yticehnnbjbliaab.Nd
open Go.RowKit Sl
abbrev cb := Lib.compareBytes
theorem cb_cons (a : UInt8) (x : List UInt8) (b : UInt8) (y : List UInt8) : cb (a :: x) (b :: y) = if a < b then -1 else if b < a then 1 else cb x y := rfl
theorem u8_eq {a b : UInt8} (h1 : ¬ a < b) (h2 : ¬ b < a) : a = b := by
  rw [UInt8.lt_iff_toNat_lt] at h1 h2
  exact UInt8.toNat_inj.1 (by omega)
theorem cb_eq : ∀ (x y : List UInt8), cb x y = 0 ↔ x = y
  | [], [] => by simp [cb, Lib.compareBytes]
  | [], _ :: _ => by simp [cb, Lib.compareBytes]
  | _ :: _, [] => by simp [cb, Lib.compareBytes]
  | a :: x, b :: y => by
    rw [cb_cons]
    by_cases h1 : a < b
    · rw [if_pos h1]
      have : a ≠ b := fun e => by subst e; exact absurd h1 (by rw [UInt8.lt_iff_toNat_lt]; omega)
      simp [this]
    · rw [if_neg h1]
      by_cases h2 : b < a
      · rw [if_pos h2]
        have : a ≠ b := fun e => by subst e; exact h1 h2
        simp [this]
      · rw [if_neg h2, cb_eq x y, u8_eq h1 h2]; simp
theorem cb_neg : ∀ (x y : List UInt8), cb y x = - cb x y
  | [], [] => rfl
  | [], _ :: _ => rfl
  | _ :: _, [] => rfl
  | a :: x, b :: y => by
    rw [cb_cons, cb_cons]
    by_cases h1 : a < b
    · have h2 : ¬ b < a := by rw [UInt8.lt_iff_toNat_lt] at *; omega
      rw [if_pos h1, if_neg h2, if_pos h1]; rfl
    · rw [if_neg h1, if_neg h1]
      by_cases h2 : b < a
      · rw [if_pos h2, if_pos h2]
      · rw [if_neg h2, if_neg h2]; exact cb_neg x y
theorem cb_trans : ∀ (x y z : List UInt8), cb x y < 0 → cb y z < 0 → cb x z < 0
  | [], [], _ => fun h _ => absurd h (by decide)
  | [], _ :: _, [] => fun _ h => absurd h (by simp [cb, Lib.compareBytes])
  | [], _ :: _, _ :: _ => fun _ _ => by simp [cb, Lib.compareBytes]
  | _ :: _, [], _ => fun h _ => absurd h (by simp [cb, Lib.compareBytes])
  | _ :: _, _ :: _, [] => fun _ h => absurd h (by simp [cb, Lib.compareBytes])
  | a :: x, b :: y, c :: z => by
    rw [cb_cons, cb_cons, cb_cons]
    intro h1 h2
    by_cases p1 : a < b
    · by_cases p2 : b < c
      · rw [if_pos (by rw [UInt8.lt_iff_toNat_lt] at *; omega)]; decide
      · rw [if_neg p2] at h2
        by_cases p3 : c < b
        · rw [if_pos p3] at h2; exact absurd h2 (by decide)
        · obtain rfl := u8_eq p2 p3
          rw [if_pos p1]; decide
    · rw [if_neg p1] at h1
      by_cases p4 : b < a
      · rw [if_pos p4] at h1; exact absurd h1 (by decide)
      · rw [if_neg p4] at h1
        obtain rfl := u8_eq p1 p4
        by_cases p2 : a < c
        · rw [if_pos p2]; decide
        · rw [if_neg p2] at h2 ⊢
          by_cases p3 : c < a
          · rw [if_pos p3] at h2; exact absurd h2 (by decide)
          · rw [if_neg p3] at h2 ⊢
            exact cb_trans x y z h1 h2
theorem bl_eq : ∀ (x y : List UInt8), Op.bytesLess x y = decide (cb x y < 0)
  | [], [] => by simp [Op.bytesLess, cb, Lib.compareBytes]
  | [], _ :: _ => by simp [Op.bytesLess, cb, Lib.compareBytes]
  | _ :: _, [] => by simp [Op.bytesLess, cb, Lib.compareBytes]
  | a :: x, b :: y => by
    rw [cb_cons, Op.bytesLess]
    by_cases h1 : a < b
    · simp [h1]
    · by_cases h2 : b < a
      · have h3 : ¬ a = b := fun e => by subst e; exact h1 h2
        simp [h1, h2, h3]
      · have h3 := u8_eq h1 h2
        subst h3
        simp [h1, bl_eq x y]
theorem leB_eq (a b : ByteArray) : leB a b = decide (cb a.data.toList b.data.toList ≤ 0) := by
  unfold leB
  rw [bytes_toList, bytes_toList, bl_eq]
  have h := cb_eq a.data.toList b.data.toList
  by_cases h1 : cb a.data.toList b.data.toList < 0
  · rw [decide_eq_true h1, decide_eq_true (by omega)]; rfl
  · rw [decide_eq_false h1]
    by_cases h2 : a.data.toList = b.data.toList
    · rw [decide_eq_true (by rw [h.2 h2]; omega), h2]; simp
    · rw [decide_eq_false (by
        have : cb a.data.toList b.data.toList ≠ 0 := fun e => h2 (h.1 e)
        omega)]
      simpa using h2
/-- entries in order -/
theorem may_step {l : List E} {leaf : Bool} (hm : mayP l leaf) {i : Nat} {p e : E} (hp : l[i]? = some p) (he : l[i + 1]? = some e) : cb p.key.data.toList e.key.data.toList < 0 := by
  have h := (hm (i + 1) (List.getElem?_eq_some_iff.1 he).1 e he).2 (by omega) p (by rw [Nat.add_sub_cancel]; exact hp)
  rw [leB_eq, decide_eq_false_iff_not] at h
  have := cb_neg p.key.data.toList e.key.data.toList
  omega
theorem may_lt {l : List E} {leaf : Bool} (hm : mayP l leaf) (i d : Nat) : ∀ {p e : E}, l[i]? = some p → l[i + 1 + d]? = some e → cb p.key.data.toList e.key.data.toList < 0 := by
  induction d with
  | zero => intro p e hp he; exact may_step hm hp he
  | succ d ih =>
    intro p e hp he
    have hlt := (List.getElem?_eq_some_iff.1 he).1
    have hq := List.getElem?_eq_getElem (show i + 1 + d < l.length by omega)
    exact cb_trans _ _ _ (ih hp hq) (may_step hm hq (by rw [show i + 1 + d + 1 = i + 1 + (d + 1) by omega]; exact he))
theorem place_less {l : List E} {leaf : Bool} {key : ByteArray} {p : Nat} (hm : mayP l leaf) (h : PlaceAt l key p) (j : Nat) (e : E) (he : l[j]? = some e) : cmpE e key < 0 ↔ j < p := by
  constructor
  · intro hc
    rcases Nat.lt_or_ge j p with h1 | h1
    · exact h1
    · exfalso
      rcases Nat.lt_or_eq_of_le h1 with h2 | rfl
      · have hq := List.getElem?_eq_getElem (show p < l.length by have := (List.getElem?_eq_some_iff.1 he).1; omega)
        have h3 := h.2.2 _ hq
        have h4 := may_lt hm p (j - p - 1) hq (by rw [show p + 1 + (j - p - 1) = j by omega]; exact he)
        have h5 := cb_trans _ _ _ h4 hc
        unfold cmpE at h3
        exact absurd h5 (by unfold cb; omega)
      · have := h.2.2 _ he; omega
  · intro hj
    have hp := h.1
    have hq := List.getElem?_eq_getElem (show p - 1 < l.length by omega)
    have h3 := h.2.1 _ (by omega) hq
    rcases Nat.lt_or_ge j (p - 1) with h1 | h1
    · have h4 := may_lt hm j (p - 1 - j - 1) he (by rw [show j + 1 + (p - 1 - j - 1) = p - 1 by omega]; exact hq)
      exact cb_trans _ _ _ h4 h3
    · obtain rfl : j = p - 1 := by omega
      rw [he] at hq
      injection hq with hq
      rw [hq]; exact h3
theorem place_eq {l : List E} {leaf : Bool} {key : ByteArray} {p : Nat} (hm : mayP l leaf) (h : PlaceAt l key p) (j : Nat) (e : E) (he : l[j]? = some e) (h0 : cmpE e key = 0) : j = p := by
  have h1 := place_less hm h j e he
  have h2 : ¬ j < p := fun hx => by have := h1.2 hx; omega
  rcases Nat.lt_or_eq_of_le (Nat.le_of_not_lt h2) with h3 | h3
  · exfalso
    have hq := List.getElem?_eq_getElem (show p < l.length by have := (List.getElem?_eq_some_iff.1 he).1; omega)
    have h4 := may_lt hm p (j - p - 1) hq (by rw [show p + 1 + (j - p - 1) = j by omega]; exact he)
    have h5 := h.2.2 _ hq
    have h6 : e.key.data.toList = key.data.toList := (cb_eq _ _).1 h0
    unfold cmpE at h5
    rw [h6] at h4
    exact absurd h4 (by unfold cb; omega)
  · exact h3.symm
/-- the last place at or below the key, plus one -/
theorem place_le {l : List E} {leaf : Bool} {key : ByteArray} {p q : Nat} (hm : mayP l leaf) (h : PlaceAt l key p) (hq : (HasAt l key p ∧ q = p + 1) ∨ (¬ HasAt l key p ∧ q = p)) (j : Nat) (e : E) (he : l[j]? = some e) : cmpE e key ≤ 0 ↔ j < q := by
  have h1 := place_less hm h j e he
  constructor
  · intro hc
    by_cases h0 : cmpE e key = 0
    · have h2 := place_eq hm h j e he h0
      subst h2
      rcases hq with ⟨_, rfl⟩ | ⟨hn, _⟩
      · omega
      · exact absurd ⟨e, he, h0⟩ hn
    · have := h1.1 (by omega)
      rcases hq with ⟨_, rfl⟩ | ⟨_, rfl⟩ <;> omega
  · intro hj
    rcases Nat.lt_or_ge j p with h2 | h2
    · have := h1.2 h2; omega
    · rcases hq with ⟨⟨e', he', h0⟩, rfl⟩ | ⟨_, rfl⟩
      · obtain rfl : j = p := by omega
        rw [he] at he'
        injection he' with he'
        rw [he', h0]; exact Int.le_refl _
      · omega
end Go.Proofs.Yticehnnbjbliaab.Nd
