/- what a crash leaves of the loose sectors; a disk that is armed. -/
import Derived.Test.YtclompapmbhijaaDiskAwake
namespace Go.Proofs.Ytclompapmbhijaa.Dk
open Go.RowKit
theorem getD_setB (l : List Bool) (k : Nat) (x : Bool) (i : Nat) : (l.set k x).getD i false = if k = i ∧ k < l.length then x else l.getD i false := by
  simp only [List.getD, List.getElem?_set]
  by_cases h : k = i
  · subst h
    by_cases h2 : k < l.length
    · simp [h2]
    · simp [h2]
  · simp [h]
theorem crashTo_loose (C : Cr) (d : D) : ∀ i, (D.crashTo C d i).1.loose.length = d.loose.length ∧ ∀ j, (D.crashTo C d i).1.loose.getD j false = if j < i then false else d.loose.getD j false
  | 0 => ⟨rfl, fun j => by simp [D.crashTo]⟩
  | i + 1 => by
    obtain ⟨h1, h2⟩ := crashTo_loose C d i
    simp only [D.crashTo]
    cases hb : (D.crashTo C d i).1.loose.getD i false
    · simp only [Bool.false_eq_true, if_false]
      refine ⟨h1, fun j => ?_⟩
      rw [h2]
      by_cases hj : j < i
      · rw [if_pos hj, if_pos (by omega)]
      · rw [if_neg hj]
        by_cases hji : j = i
        · subst hji
          rw [if_pos (by omega)]
          rw [h2, if_neg (by omega)] at hb
          exact hb
        · rw [if_neg (by omega)]
    · simp only [if_true]
      refine ⟨by show (List.set _ _ _).length = _; rw [List.length_set]; exact h1, fun j => ?_⟩
      show (List.set _ _ _).getD _ _ = _
      rw [getD_setB, h2]
      by_cases hji : i = j
      · subst hji
        rw [if_pos (show i < i + 1 by omega)]
        split
        · rfl
        · rename_i h
          rw [if_neg (by omega)]
          have : ¬ i < (D.crashTo C d i).1.loose.length := fun h3 => h ⟨rfl, h3⟩
          simp only [List.getD]
          rw [List.getElem?_eq_none (by rw [h1] at this; omega)]; rfl
      · rw [if_neg (by omega)]
        by_cases hj : j < i
        · rw [if_pos hj, if_pos (by omega)]
        · rw [if_neg hj, if_neg (by omega)]
theorem crash_loose (C : Cr) (d : D) {n : Nat} (h : d.Ok n) : (d.crashF C n).loose = List.replicate n false := by
  obtain ⟨h1, h2⟩ := crashTo_loose C d n
  apply List.ext_getElem
  · show (D.crashTo C d n).1.loose.length = _
    rw [h1, h.loose]; simp
  · intro i h3 h4
    have h5 : i < n := by simpa using h4
    have := h2 i
    rw [if_pos h5] at this
    have h6 : i < (D.crashTo C d n).1.loose.length := h3
    simp only [List.getD, List.getElem?_eq_getElem h6, Option.getD_some] at this
    rw [List.getElem_replicate]; exact this
theorem count_false (n : Nat) : (List.replicate n false).count true = 0 := by
  rw [List.count_eq_zero]; simp

/-- so many calls have counted of a disk that is armed for its k-th -/
structure Armed (d : D) (k i : Nat) : Prop where
  ok : d.Ok 9
  up : d.down = false
  armed : d.armed = (k : Int) - i
  calls : d.calls = i
  cnt : d.loose.count true = i
  rest : ∀ j, i < j → d.loose.getD j false = false
theorem count_set (l : List Bool) (i : Nat) (h : i < l.length) (hf : l.getD i false = false) : (l.set i true).count true = l.count true + 1 := by
  have e1 : l = l.take i ++ l[i] :: l.drop (i + 1) := by simp
  have e2 : l.set i true = l.take i ++ true :: l.drop (i + 1) := by rw [List.set_eq_take_append_cons_drop, if_pos h]
  have e3 : l[i] = false := by simpa [List.getD, List.getElem?_eq_getElem h] using hf
  rw [e2]
  conv => rhs; rw [e1]
  rw [e3, List.count_append, List.count_append, List.count_cons, List.count_cons]
  simp; omega
theorem Armed.step {d : D} {k i : Nat} (h : Armed d k i) (hi : i + 1 < k) (hk : k ≤ 6) (s : List UInt8) : (d.writeF 9 ((i + 1 : Nat) : Int) s).2 = 0 ∧ Armed (d.writeF 9 ((i + 1 : Nat) : Int) s).1 k (i + 1) := by
  have ha : d.atF 9 ((i + 1 : Nat) : Int) = 0 := by unfold D.atF; rw [h.up]; simp; omega
  have hl := h.rest (i + 1) (by omega)
  have hL := h.ok.loose
  have hkp : d.keepF (i + 1) = { d with old := setSec d.old (i + 1) (sec d.now (i + 1)), loose := d.loose.set (i + 1) true } := by unfold D.keepF; rw [hl]; rfl
  have har := h.armed
  have hw := h.ok.write ((i + 1 : Nat) : Int) s
  unfold D.writeF at *
  rw [if_pos ha] at *
  simp only [Int.toNat_natCast] at *
  have e1 : (d.putF (i + 1) s).armed = d.armed := by unfold D.putF; rw [hkp]
  have e2 : (d.putF (i + 1) s).loose = d.loose.set (i + 1) true := by unfold D.putF; rw [hkp]
  have e3 : (d.putF (i + 1) s).calls = d.calls := by unfold D.putF; rw [hkp]
  generalize d.putF (i + 1) s = p at *
  have hc : p.countF = ({ p with calls := p.calls + 1, armed := p.armed - 1, down := false }, 0) := by
    unfold D.countF; rw [if_neg (by omega), if_neg (by omega)]
  rw [hc] at hw ⊢
  refine ⟨rfl, ⟨hw, rfl, ?_, ?_, ?_, ?_⟩⟩
  · show p.armed - 1 = _; rw [e1, har]; omega
  · show p.calls + 1 = _; rw [e3, h.calls]; omega
  · show p.loose.count true = _; rw [e2, count_set _ _ (by omega) hl, h.cnt]
  · intro j hj
    show p.loose.getD j false = false
    rw [e2, getD_setB, if_neg (by omega)]
    exact h.rest j (by omega)
theorem Armed.start (k : Nat) : Armed { D.zero 9 with armed := k } k 0 :=
  ⟨⟨List.length_replicate, List.length_replicate, List.length_replicate, by omega, by show (0 : Int) ≤ k; omega, Int.le_refl 0⟩, rfl, by show (k : Int) = _; omega, rfl, by show (List.replicate 9 false).count true = 0; exact count_false 9, fun j _ => by
    show (List.replicate 9 false).getD j false = false
    simp only [List.getD, List.getElem?_replicate]; split <;> rfl⟩
/-- the call for which the disk is armed -/
theorem Armed.last {d : D} {k i : Nat} (h : Armed d k i) (hi : i + 1 = k) : d.syncF = ({ d with calls := k, armed := 0, down := true }, 13) := by
  have ha : d.armed = 1 := by rw [h.armed]; omega
  have hc : d.countF = ({ d with calls := d.calls + 1, armed := 0, down := true }, 13) := by unfold D.countF; rw [if_neg (by omega), if_pos ha]
  unfold D.syncF
  rw [h.up, if_neg (by simp), hc, if_neg (by simp)]
  congr 2
  rw [h.calls]; omega
end Go.Proofs.Ytclompapmbhijaa.Dk
