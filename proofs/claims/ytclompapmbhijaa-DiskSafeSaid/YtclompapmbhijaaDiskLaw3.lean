/- what a crash leaves of each sector. -/
import Derived.Test.YtclompapmbhijaaDiskLaw2
namespace Go.Proofs.Ytclompapmbhijaa.Dk
open Go.RowKit
theorem xcrash_new (C : Cr) (x : X) : ∀ i, (x.crashTo C i).1.new = x.new
  | 0 => rfl
  | i + 1 => by
    rw [X.crashTo]
    split
    · exact xcrash_new C x i
    · exact xcrash_new C x i
theorem xcrash_lens (C : Cr) (x : X) : ∀ i, (x.crashTo C i).1.safe.length = x.safe.length ∧ (x.crashTo C i).1.is.length = x.is.length
  | 0 => ⟨rfl, rfl⟩
  | i + 1 => by
    have ih := xcrash_lens C x i
    rw [X.crashTo]
    split
    · exact ⟨by show (List.set _ _ _).length = _; rw [List.length_set]; exact ih.1, by show (List.set _ _ _).length = _; rw [List.length_set]; exact ih.2⟩
    · exact ih
theorem xcrash_is {x : X} {n : Nat} (h : x.Ok n) (C : Cr) (k : Nat) : ∀ i, i ≤ n → (x.crashTo C i).1.is.getD k false = if k < i then false else x.is.getD k false
  | 0, _ => by rw [if_neg (Nat.not_lt_zero k)]; rfl
  | i + 1, hi => by
    have ih := xcrash_is h C k i (by omega)
    have hl := (xcrash_lens C x i).2
    rw [h.is] at hl
    by_cases hi2 : (x.crashTo C i).1.is.getD i false = true
    · rw [X.crashTo, if_pos hi2]
      show ((x.crashTo C i).1.is.set i false).getD k false = _
      rw [getD_setB, ih]
      by_cases e : i = k
      · rw [if_pos ⟨e, by omega⟩, if_pos (by omega)]
      · rw [if_neg (fun h => e h.1)]
        by_cases e2 : k < i
        · rw [if_pos e2, if_pos (by omega)]
        · rw [if_neg e2, if_neg (by omega)]
    · rw [X.crashTo, if_neg hi2, ih]
      by_cases e : i = k
      · subst e
        rw [ih] at hi2
        rw [if_neg (Nat.lt_irrefl _)] at hi2 ⊢
        rw [if_pos (Nat.lt_succ_self _)]
        simpa using hi2
      · by_cases e2 : k < i
        · rw [if_pos e2, if_pos (by omega)]
        · rw [if_neg e2, if_neg (by omega)]
theorem xcrash_safe {x : X} {n : Nat} (h : x.Ok n) (C : Cr) (k : Nat) : ∀ i, i ≤ n → (x.crashTo C i).1.safe.getD k .empty = if k < i ∧ x.is.getD k false = true then cutB (C.leftF (x.crashTo C k).2) (x.new.getD k .empty) (x.safe.getD k .empty) else x.safe.getD k .empty
  | 0, _ => by rw [if_neg (by omega)]; rfl
  | i + 1, hi => by
    have ih := fun k => xcrash_safe h C k i (by omega)
    have hi1 := xcrash_is h C i i (by omega)
    rw [if_neg (Nat.lt_irrefl _)] at hi1
    have hl := (xcrash_lens C x i).1
    rw [h.safe] at hl
    by_cases hi2 : (x.crashTo C i).1.is.getD i false = true
    · rw [X.crashTo, if_pos hi2]
      show ((x.crashTo C i).1.safe.set i _).getD k .empty = _
      rw [getD_setS _ _ _ _ (by omega), xcrash_new, ih k, ih i, if_neg (show ¬ (i < i ∧ _) from fun h => Nat.lt_irrefl _ h.1)]
      by_cases e : i = k
      · subst e
        rw [if_pos rfl, if_pos ⟨Nat.lt_succ_self _, by rw [← hi1]; exact hi2⟩]
      · rw [if_neg e]
        by_cases e2 : k < i ∧ x.is.getD k false = true
        · rw [if_pos e2, if_pos ⟨by omega, e2.2⟩]
        · rw [if_neg e2, if_neg (fun h => e2 ⟨by omega, h.2⟩)]
    · rw [X.crashTo, if_neg hi2, ih k]
      by_cases e : i = k
      · subst e
        rw [hi1] at hi2
        rw [if_neg (fun h => hi2 h.2), if_neg (fun h => hi2 h.2)]
      · by_cases e2 : k < i ∧ x.is.getD k false = true
        · rw [if_pos e2, if_pos ⟨by omega, e2.2⟩]
        · rw [if_neg e2, if_neg (fun h => e2 ⟨by omega, h.2⟩)]
/-- a sector behind a crash -/
def After (C : Cr) (x : X) (i : Nat) : ByteArray := if x.is.getD i false = true then cutB (C.leftF (x.crashTo C i).2) (x.new.getD i .empty) (x.safe.getD i .empty) else x.safe.getD i .empty
theorem crash_now {x : X} {n : Nat} (h : x.Ok n) (C : Cr) (i : Nat) (hi : i < n) : (x.crashF C n).nowF i = After C x i := by
  have h1 := xcrash_is h C i n (Nat.le_refl n)
  have h2 := xcrash_safe h C i n (Nat.le_refl n)
  rw [if_pos hi] at h1
  have : (x.crashF C n).nowF i = (x.crashTo C n).1.safe.getD i .empty := X.now_safe (x := x.crashF C n) h1
  rw [this, h2]
  unfold After
  by_cases e : x.is.getD i false = true
  · rw [if_pos ⟨hi, e⟩, if_pos e]
  · rw [if_neg (fun h => e h.2), if_neg e]
theorem after_size {x : X} {n : Nat} (h : x.Ok n) (C : Cr) (i : Nat) (hi : i < n) : (After C x i).size = 64 := by
  unfold After
  split
  · rename_i e
    exact cutB_size _ _ _ (C.left_le _) (h.fitn i e) (h.safe64 i hi)
  · exact h.safe64 i hi
theorem rank_next {x : X} {n : Nat} (h : x.Ok n) (C : Cr) (i : Nat) (hi : i < n) : (x.crashTo C (i + 1)).2 = (x.crashTo C i).2 + if x.is.getD i false = true then 1 else 0 := by
  have hi1 := xcrash_is h C i i (by omega)
  rw [if_neg (Nat.lt_irrefl _)] at hi1
  rw [X.crashTo, hi1]
  split <;> rfl
theorem extract_all64 (a : ByteArray) (h : a.size = 64) : a.extract 0 64 = a := by
  rw [← h]; exact ByteArray.extract_zero_size
theorem after_other {x : X} {n : Nat} (h : x.Ok n) (C : Cr) (i : Nat) (hi : i < n) (h1 : x.is.getD i false = true) (h2 : After C x i ≠ x.safe.getD i .empty) (h3 : After C x i ≠ x.new.getD i .empty) : ((x.crashTo C i).2 : Int) = C.torn := by
  refine Decidable.byContradiction fun e => ?_
  unfold After at h2 h3
  rw [if_pos h1] at h2 h3
  unfold Cr.leftF at h2 h3
  rw [if_neg e] at h2 h3
  split at h2
  · rw [if_pos (by assumption), cutB_all, extract_all64 _ (h.fitn i h1)] at h3
    exact h3 rfl
  · rw [cutB_zero, extract_all64 _ (h.safe64 i hi)] at h2
    exact h2 rfl
theorem cutB_get (k : Nat) (a b : ByteArray) (hk : k ≤ 64) (ha : a.size = 64) (hb : b.size = 64) (j : Nat) (hj : j < 64) : (cutB k a b).get! j = if j < k then a.get! j else b.get! j := by
  have e1 : ∀ c : ByteArray, c.get! j = (c.data.toList[j]?).getD 0 := by
    intro c
    show c.data[j]! = _
    rw [Array.getElem!_eq_getD, Array.getD_eq_getD_getElem?, ← Array.getElem?_toList]; rfl
  rw [e1, e1, e1]
  unfold cutB
  rw [ByteArray.data_append, Array.toList_append, ByteArray.data_extract, ByteArray.data_extract, List.getElem?_append]
  have la : a.data.toList.length = 64 := ha
  have lb : b.data.toList.length = 64 := hb
  have l1 : (a.data.extract 0 k).toList.length = k := by
    rw [Array.length_toList, Array.size_extract]
    have : a.data.size = 64 := ha
    omega
  rw [l1]
  by_cases h : j < k
  · rw [if_pos h, if_pos h, Array.toList_extract, List.extract_eq_take_drop]
    simp [List.getElem?_take, h]
  · rw [if_neg h, if_neg h, Array.toList_extract, List.extract_eq_take_drop, List.getElem?_take, if_pos (by omega), List.getElem?_drop, show k + (j - k) = j by omega]
/-- what lies behind the first byte that is not the new one's -/
theorem after_tail {x : X} {n : Nat} (h : x.Ok n) (C : Cr) (i : Nat) (hi : i < n) (h1 : x.is.getD i false = true) (k : Nat) (hk : k < 64) (h2 : (After C x i).get! k ≠ (x.new.getD i .empty).get! k) : (After C x i).extract k 64 = (x.safe.getD i .empty).extract k 64 := by
  have hn := h.fitn i h1
  have hs := h.safe64 i hi
  have e : After C x i = cutB (C.leftF (x.crashTo C i).2) (x.new.getD i .empty) (x.safe.getD i .empty) := by unfold After; rw [if_pos h1]
  have hle := C.left_le (x.crashTo C i).2
  rw [e] at h2 ⊢
  generalize C.leftF (x.crashTo C i).2 = q at *
  generalize x.new.getD i .empty = a at *
  generalize x.safe.getD i .empty = b at *
  rw [cutB_get _ _ _ hle hn hs _ hk] at h2
  have hq : q ≤ k := by
    refine Nat.le_of_not_lt fun hlt => ?_
    rw [if_pos hlt] at h2
    exact h2 rfl
  apply ByteArray.ext
  rw [ByteArray.data_extract, ByteArray.data_extract]
  unfold cutB
  rw [ByteArray.data_append, ByteArray.data_extract, ByteArray.data_extract]
  have sa : a.data.size = 64 := hn
  have sb : b.data.size = 64 := hs
  apply Array.ext
  · simp [sa, sb]; omega
  · intro j hj1 hj2
    have hj : j < 64 - k := by
      simp [sb] at hj2; omega
    rw [Array.getElem_extract, Array.getElem_extract, Array.getElem_append_right (by simp [sa]; omega), Array.getElem_extract]
    congr 1
    simp [sa]; omega
theorem eq_of_gets {a b : ByteArray} (ha : a.size = 64) (hb : b.size = 64) (h : ∀ j, j < 64 → a.get! j = b.get! j) : a = b := by
  have e1 : ∀ c : ByteArray, ∀ j, c.get! j = (c.data.toList[j]?).getD 0 := by
    intro c j
    show c.data[j]! = _
    rw [Array.getElem!_eq_getD, Array.getD_eq_getD_getElem?, ← Array.getElem?_toList]; rfl
  apply ByteArray.ext
  apply Array.ext'
  have la : a.data.toList.length = 64 := ha
  have lb : b.data.toList.length = 64 := hb
  apply List.ext_getElem (by rw [la, lb])
  intro j h1 h2
  have := h j (by omega)
  rw [e1, e1, List.getElem?_eq_getElem h1, List.getElem?_eq_getElem h2] at this
  exact this
theorem get_bang (a : ByteArray) (k : Nat) (h : k < a.size) : a.get! k = a[k] := by
  show a.data[k]! = a.data[k]
  exact getElem!_pos a.data k h
theorem toL_ne {a b : ByteArray} (h : ¬ a = b) : ¬ a.toList = b.toList := fun e => h (by
  rw [bytes_toList, bytes_toList] at e
  exact ByteArray.ext (Array.ext' e))
theorem toL_beq {a b : ByteArray} (h : ¬ a = b) : (a.toList == b.toList) = false := by simpa using toL_ne h
/-- a second crash changes nothing -/
theorem crash_again (C C' : Cr) {d : D} {n : Nat} (h : d.Ok n) : ((d.crashF C n).crashF C' n).now = (d.crashF C n).now ∧ ((d.crashF C n).crashF C' n).loose = List.replicate n false := by
  have hl := crash_loose C d h
  refine ⟨?_, crash_loose C' _ (h.crash C)⟩
  have : ∀ k, D.crashTo C' (d.crashF C n) k = (d.crashF C n, 0) := by
    intro k
    induction k with
    | zero => rfl
    | succ k ih =>
      rw [D.crashTo, ih, if_neg]
      rw [hl]
      simp only [List.getD, List.getElem?_replicate]
      split <;> simp
  show (D.crashTo C' (d.crashF C n) n).1.now = _
  rw [this]
theorem down_crash (C : Cr) (d : D) (n : Nat) : (d.crashF C n).down = false := rfl
theorem read_now {d : D} {n : Nat} (h : d.down = false) (i : Nat) (hi : i < n) : d.readF n i = (sec d.now i, 0) := by
  have ha : d.atF n i = 0 := by
    unfold D.atF
    rw [if_neg (by rw [h]; decide), if_pos (by omega)]
  unfold D.readF
  rw [if_pos ha]; rfl
end Go.Proofs.Ytclompapmbhijaa.Dk
