/- the disk and the document's disk, with one content. -/
import Derived.Test.YtclompapmbhijaaDiskX4
namespace Go.Proofs.Ytclompapmbhijaa.Dk
open Go.RowKit

structure Rel (n : Nat) (d : D) (x : X) : Prop where
  dok : d.Ok n
  xok : x.Ok n
  lo : d.loose = x.is
  now : ∀ i, i < n → sec d.now i = (x.nowF i).data.toList
  old : ∀ i, i < n → x.is.getD i false = true → sec d.old i = (x.safe.getD i .empty).data.toList
  arm : d.armed = x.arm
  calls : d.calls = x.calls
  down : d.down = x.down
section
variable {n : Nat} {d : D} {x : X}
theorem X.now_safe {x : X} {i : Nat} (h : x.is.getD i false = false) : x.nowF i = x.safe.getD i .empty := by unfold X.nowF; rw [h]; rfl
theorem X.now_new {x : X} {i : Nat} (h : x.is.getD i false = true) : x.nowF i = x.new.getD i .empty := by unfold X.nowF; rw [h]; rfl
theorem set_same (l : List Bool) (i : Nat) (b : Bool) (h : l.getD i false = b) (hi : i < l.length) : l.set i b = l := by
  apply List.ext_getElem?
  intro j
  rw [List.getElem?_set]
  by_cases e : i = j
  · subst e
    rw [if_pos rfl, if_pos hi]
    rw [List.getElem?_eq_getElem hi]
    simp only [List.getD, List.getElem?_eq_getElem hi, Option.getD_some] at h
    rw [h]
  · rw [if_neg e]
theorem Rel.count (h : Rel n d x) (hd : x.down = false) : d.countF.2 = x.countF.2 ∧ Rel n d.countF.1 x.countF.1 := by
  have ha := h.dok.armed
  have e := h.arm
  have hk := h.dok.count
  have hx := h.xok.count
  have hc := h.calls
  by_cases h0 : d.armed = 0
  · have e1 : d.countF = ({ d with calls := d.calls + 1 }, 0) := by unfold D.countF; rw [if_pos h0]
    have e2 : x.countF = ({ x with calls := x.calls + 1 }, 0) := by unfold X.countF; rw [if_neg (by omega), if_neg (by omega)]
    rw [e1] at hk ⊢
    rw [e2] at hx ⊢
    exact ⟨rfl, hk, hx, h.lo, h.now, h.old, h.arm, by show d.calls + 1 = x.calls + 1; omega, h.down⟩
  · by_cases h1 : d.armed = 1
    · have e1 : d.countF = ({ d with calls := d.calls + 1, armed := 0, down := true }, 13) := by unfold D.countF; rw [if_neg h0, if_pos h1]
      have e2 : x.countF = ({ x with calls := x.calls + 1, arm := 0, down := true }, 13) := by unfold X.countF; rw [if_pos (by omega)]
      rw [e1] at hk ⊢
      rw [e2] at hx ⊢
      exact ⟨rfl, hk, hx, h.lo, h.now, h.old, rfl, by show d.calls + 1 = x.calls + 1; omega, rfl⟩
    · have e1 : d.countF = ({ d with calls := d.calls + 1, armed := d.armed - 1, down := false }, 0) := by unfold D.countF; rw [if_neg h0, if_neg h1]
      have e2 : x.countF = ({ x with calls := x.calls + 1, arm := x.arm - 1 }, 0) := by unfold X.countF; rw [if_neg (by omega), if_pos (by omega)]
      rw [e1] at hk ⊢
      rw [e2] at hx ⊢
      exact ⟨rfl, hk, hx, h.lo, h.now, h.old, by show d.armed - 1 = x.arm - 1; omega, by show d.calls + 1 = x.calls + 1; omega, hd.symm⟩
theorem X.put_is (x : X) (i : Nat) (s : ByteArray) (k : Nat) (hi : i < x.is.length) : (x.putF i s).is.getD k false = if i = k then true else x.is.getD k false := by
  show (x.is.set i true).getD k false = _
  rw [getD_setB]
  by_cases e : i = k
  · rw [if_pos ⟨e, hi⟩, if_pos e]
  · rw [if_neg (fun h => e h.1), if_neg e]
theorem Rel.put (h : Rel n d x) (i : Nat) (hi : i < n) (s : ByteArray) : Rel n (d.putF i s.data.toList) (x.putF i s) := by
  have hil : i < x.is.length := by rw [h.xok.is]; exact hi
  have hdl : i < d.loose.length := by rw [h.dok.loose]; exact hi
  refine ⟨h.dok.put i _ hi, h.xok.put i hi s, ?_, fun k hk => ?_, fun k hk hik => ?_, ?_, ?_, ?_⟩
  · show (d.keepF i).loose = x.is.set i true
    unfold D.keepF
    rw [← h.lo]
    cases hl : d.loose.getD i false
    · rfl
    · rw [set_same _ _ _ hl hdl]; rfl
  · show sec (setSec d.now i (fillF s.data.toList)) k = _
    rw [sec_set h.dok.now hi (fillF_length _) hk]
    unfold X.nowF
    rw [X.put_is _ _ _ _ hil]
    show _ = ((if (if i = k then true else x.is.getD k false) = true then (x.new.set i (fillB s)).getD k .empty else x.safe.getD k .empty) : ByteArray).data.toList
    rw [getD_setS _ _ _ _ (by rw [h.xok.new]; exact hi)]
    by_cases e : i = k
    · simp only [e, if_true]; rfl
    · simp only [e, if_false]
      exact h.now k hk
  · rw [X.put_is _ _ _ _ hil] at hik
    show sec (d.keepF i).old k = (x.safe.getD k .empty).data.toList
    unfold D.keepF
    cases hl : d.loose.getD i false
    · show sec (setSec d.old i (sec d.now i)) k = _
      rw [sec_set h.dok.old hi (sec_length h.dok.now hi) hk]
      by_cases e : i = k
      · subst e
        rw [if_pos rfl, h.now i hi, X.now_safe (by rw [← h.lo]; exact hl)]
      · rw [if_neg e] at hik ⊢
        exact h.old k hk hik
    · show sec d.old k = _
      by_cases e : i = k
      · subst e
        exact h.old i hi (by rw [← h.lo]; exact hl)
      · rw [if_neg e] at hik
        exact h.old k hk hik
  · show (d.keepF i).armed = x.arm
    unfold D.keepF; split <;> exact h.arm
  · show (d.keepF i).calls = x.calls
    unfold D.keepF; split <;> exact h.calls
  · show (d.keepF i).down = x.down
    unfold D.keepF; split <;> exact h.down
theorem Rel.at (h : Rel n d x) (i : Int) : d.atF n i = if x.down then 13 else if 0 ≤ i ∧ i < n then 0 else 3 := by unfold D.atF; rw [h.down]
theorem Rel.write (h : Rel n d x) (i : Int) (s : ByteArray) : (d.writeF n i s.data.toList).2 = (x.writeF n i s).2 ∧ Rel n (d.writeF n i s.data.toList).1 (x.writeF n i s).1 := by
  unfold D.writeF X.writeF
  rw [h.at]
  cases hd : x.down
  · simp only [Bool.false_eq_true, if_false]
    by_cases hi : 0 ≤ i ∧ i < n
    · simp only [if_pos hi, if_true]
      exact (h.put i.toNat (by omega) s).count hd
    · simp only [if_neg hi]
      exact ⟨rfl, h⟩
  · simp only [if_true]
    exact ⟨rfl, h⟩
theorem X.syncTo_is (x : X) (k : Nat) (hk : k ≤ x.is.length) : (x.syncTo k).is.length = x.is.length ∧ ∀ j, (x.syncTo k).is.getD j false = if j < k then false else x.is.getD j false := by
  induction k with
  | zero => exact ⟨rfl, fun j => by simp [X.syncTo]⟩
  | succ k ih =>
    obtain ⟨h1, h2⟩ := ih (by omega)
    refine ⟨by show (List.set _ _ _).length = _; rw [List.length_set]; exact h1, fun j => ?_⟩
    show ((x.syncTo k).is.set k false).getD j false = _
    rw [getD_setB, h2]
    by_cases e : k = j
    · subst e
      rw [if_pos ⟨rfl, by omega⟩, if_pos (by omega)]
    · rw [if_neg (fun h => e h.1)]
      by_cases hj : j < k
      · rw [if_pos hj, if_pos (by omega)]
      · rw [if_neg hj, if_neg (by omega)]
theorem X.syncTo_same (x : X) (k : Nat) : (x.syncTo k).new = x.new ∧ (x.syncTo k).arm = x.arm ∧ (x.syncTo k).calls = x.calls ∧ (x.syncTo k).down = x.down := by
  induction k with
  | zero => exact ⟨rfl, rfl, rfl, rfl⟩
  | succ k ih => exact ih
theorem X.syncTo_safe (x : X) (k : Nat) (hk : k ≤ x.is.length) (hs : x.safe.length = x.is.length) : (x.syncTo k).safe.length = x.safe.length ∧ ∀ j, (x.syncTo k).safe.getD j .empty = if j < k then x.nowF j else x.safe.getD j .empty := by
  induction k with
  | zero => exact ⟨rfl, fun j => by simp [X.syncTo]⟩
  | succ k ih =>
    obtain ⟨h1, h2⟩ := ih (by omega)
    refine ⟨by show (List.set _ _ _).length = _; rw [List.length_set]; exact h1, fun j => ?_⟩
    have en : (x.syncTo k).nowF k = x.nowF k := by
      unfold X.nowF
      rw [(X.syncTo_is x k (by omega)).2, if_neg (Nat.lt_irrefl k), (X.syncTo_same x k).1, h2, if_neg (Nat.lt_irrefl k)]
    show ((x.syncTo k).safe.set k ((x.syncTo k).nowF k)).getD j .empty = _
    rw [en, getD_setS _ _ _ _ (by omega), h2]
    by_cases e : k = j
    · subst e
      rw [if_pos rfl, if_pos (by omega)]
    · rw [if_neg e]
      by_cases hj : j < k
      · rw [if_pos hj, if_pos (by omega)]
      · rw [if_neg hj, if_neg (by omega)]
theorem X.Ok.syncTo {x : X} (h : x.Ok n) : ∀ k, k ≤ n → (x.syncTo k).Ok n
  | 0, _ => h
  | k + 1, hk => (X.Ok.syncTo h k (by omega)).syncOne k _ ((X.Ok.syncTo h k (by omega)).now k (by omega))
theorem list_false (l : List Bool) (n : Nat) (h : l.length = n) (hf : ∀ j, j < n → l.getD j false = false) : l = List.replicate n false := by
  apply List.ext_getElem
  · rw [h, List.length_replicate]
  · intro i h1 h2
    have := hf i (by omega)
    simp only [List.getD, List.getElem?_eq_getElem h1, Option.getD_some] at this
    rw [List.getElem_replicate]; exact this
theorem Rel.calm (h : Rel n d x) : Rel n { d with loose := List.replicate n false } (x.syncTo n) := by
  have hi := h.xok.is
  have hs := h.xok.safe
  obtain ⟨i1, i2⟩ := X.syncTo_is x n (by omega)
  obtain ⟨s1, s2⟩ := X.syncTo_safe x n (by omega) (by omega)
  obtain ⟨m1, m2, m3, m4⟩ := X.syncTo_same x n
  refine ⟨⟨h.dok.now, h.dok.old, by show (List.replicate n false).length = n; simp, h.dok.small, h.dok.armed, h.dok.calls⟩, h.xok.syncTo n (Nat.le_refl n), ?_, fun k hk => ?_, fun k hk hik => ?_, by rw [m2]; exact h.arm, by rw [m3]; exact h.calls, by rw [m4]; exact h.down⟩
  · exact (list_false _ n (by omega) (fun j hj => by rw [i2, if_pos hj])).symm
  · show sec d.now k = _
    rw [X.now_safe (by rw [i2, if_pos hk]), s2, if_pos hk]
    exact h.now k hk
  · rw [i2, if_pos hk] at hik; cases hik
theorem Rel.sync (h : Rel n d x) : d.syncF.2 = (x.syncF n).2 ∧ Rel n d.syncF.1 (x.syncF n).1 := by
  unfold D.syncF X.syncF
  rw [h.down, h.dok.loose]
  cases hd : x.down
  · simp only [Bool.false_eq_true, if_false]
    obtain ⟨e, hc⟩ := h.count hd
    rw [e]
    by_cases h0 : x.countF.2 = 0
    · rw [if_pos h0, if_pos h0]
      exact ⟨by first | rfl | trivial | simp, hc.calm⟩
    · rw [if_neg h0, if_neg h0]
      exact ⟨e, hc⟩
  · simp only [if_true]
    exact ⟨trivial, h⟩
theorem cutB_list (k : Nat) (a b : ByteArray) (_hk : k ≤ 64) (_ha : a.size = 64) (hb : b.size = 64) : (cutB k a b).data.toList = a.data.toList.take k ++ b.data.toList.drop k := by
  unfold cutB
  rw [ByteArray.data_append, Array.toList_append, ByteArray.data_extract, ByteArray.data_extract, Array.toList_extract, Array.toList_extract]
  simp only [List.extract_eq_take_drop, List.drop_zero, Nat.sub_zero]
  congr 1
  rw [List.take_of_length_le]
  have : b.data.toList.length = 64 := by rw [← hb]; simp
  simp [this]
theorem Rel.one (h : Rel n d x) (C : Cr) (j i : Nat) (hi : i < n) (hl : x.is.getD i false = true) : Rel n (d.crashOne C j i) (x.syncOne i (cutB (C.leftF j) (x.new.getD i .empty) (x.safe.getD i .empty))) := by
  have hk := C.left_le j
  have hn := h.xok.fitn i hl
  have hs := h.xok.safe64 i hi
  have hil : i < x.is.length := by rw [h.xok.is]; exact hi
  have e1 := sec_length h.dok.now hi
  have e2 := sec_length h.dok.old hi
  have ei : ∀ k, (x.syncOne i (cutB (C.leftF j) (x.new.getD i .empty) (x.safe.getD i .empty))).is.getD k false = if i = k then false else x.is.getD k false := by
    intro k
    show (x.is.set i false).getD k false = _
    rw [getD_setB]
    by_cases e : i = k
    · rw [if_pos ⟨e, hil⟩, if_pos e]
    · rw [if_neg (fun h => e h.1), if_neg e]
  have es : ∀ k, (x.syncOne i (cutB (C.leftF j) (x.new.getD i .empty) (x.safe.getD i .empty))).safe.getD k .empty = if i = k then cutB (C.leftF j) (x.new.getD i .empty) (x.safe.getD i .empty) else x.safe.getD k .empty := by
    intro k
    exact getD_setS _ _ _ _ (by rw [h.xok.safe]; exact hi)
  refine ⟨h.dok.one C j i hi, h.xok.syncOne i _ (cutB_size _ _ _ hk hn hs), ?_, fun k hk' => ?_, fun k hk' hik => ?_, h.arm, h.calls, h.down⟩
  · show d.loose.set i false = x.is.set i false
    rw [h.lo]
  · show sec (setSec d.now i _) k = _
    rw [sec_set h.dok.now hi (by simp [e1, e2]; omega) hk']
    by_cases e : i = k
    · subst e
      rw [if_pos rfl, X.now_safe (by rw [ei, if_pos rfl]), es, if_pos rfl, cutB_list _ _ _ hk hn hs, h.now i hi, h.old i hi hl, X.now_new hl]
    · rw [if_neg e]
      have : (x.syncOne i (cutB (C.leftF j) (x.new.getD i .empty) (x.safe.getD i .empty))).nowF k = x.nowF k := by
        unfold X.nowF
        rw [ei, if_neg e, es, if_neg e]
        rfl
      rw [this]
      exact h.now k hk'
  · rw [ei] at hik
    by_cases e : i = k
    · rw [if_pos e] at hik; cases hik
    · rw [if_neg e] at hik
      rw [es, if_neg e]
      exact h.old k hk' hik
theorem Rel.crashTo (h : Rel n d x) (C : Cr) : ∀ i, i ≤ n → (D.crashTo C d i).2 = (x.crashTo C i).2 ∧ Rel n (D.crashTo C d i).1 (x.crashTo C i).1
  | 0, _ => ⟨rfl, h⟩
  | i + 1, hi => by
    obtain ⟨e, ih⟩ := Rel.crashTo h C i (by omega)
    simp only [D.crashTo, X.crashTo]
    rw [ih.lo]
    cases hl : (x.crashTo C i).1.is.getD i false
    · simp only [Bool.false_eq_true, if_false]
      exact ⟨e, ih⟩
    · simp only [if_true]
      rw [e]
      exact ⟨rfl, ih.one C _ i (by omega) hl⟩
theorem Rel.crash (h : Rel n d x) (C : Cr) : Rel n (d.crashF C n) (x.crashF C n) := by
  have h1 := (h.crashTo C n (Nat.le_refl n)).2
  have hok := h.dok.crash C
  exact ⟨hok, ⟨h1.xok.safe, h1.xok.new, h1.xok.is, h1.xok.small, h1.xok.fits, h1.xok.fitn⟩, h1.lo, h1.now, h1.old, rfl, h1.calls, rfl⟩
theorem made_ok (n : Nat) (hn : n ≤ 4096) : (X.made n).Ok n := by
  refine ⟨by simp [X.made], by simp [X.made], by simp [X.made], hn, fun s hs => ?_, fun i hi => ?_⟩
  · have hs : s ∈ List.replicate n zeroB := hs
    rw [(List.mem_replicate.1 hs).2]
    exact fillB_size _
  · have hi : (List.replicate n false).getD i false = true := hi
    simp only [List.getD, List.getElem?_replicate] at hi
    split at hi <;> simp at hi
theorem replicate_getD (n i : Nat) (s t : ByteArray) (h : i < n) : (List.replicate n s).getD i t = s := by
  simp [List.getD, h]
theorem Rel.made (n : Nat) (hn : n ≤ 4096) : Rel n (D.zero n) (X.made n) := by
  refine ⟨zero_ok n hn, made_ok n hn, rfl, fun i hi => ?_, fun i hi hl => ?_, rfl, rfl, rfl⟩
  · rw [X.now_safe (by simp only [X.made, List.getD, List.getElem?_replicate]; split <;> rfl)]
    show sec (List.replicate (64 * n) 0) i = ((List.replicate n zeroB).getD i .empty).data.toList
    rw [replicate_getD _ _ _ _ hi]
    show sec (List.replicate (64 * n) 0) i = fillF []
    unfold sec fillF
    rw [List.drop_replicate, List.take_replicate]
    have e : min 64 (64 * n - 64 * i) = 64 := by omega
    rw [e]; rfl
  · exfalso
    have hl : (List.replicate n false).getD i false = true := hl
    simp only [List.getD, List.getElem?_replicate] at hl
    split at hl <;> simp at hl
/-- one that was armed -/
theorem Rel.armed (h : Rel n d x) (k : Int) (hk : 0 ≤ k) : Rel n { d with armed := k } { x with arm := k } :=
  ⟨⟨h.dok.now, h.dok.old, h.dok.loose, h.dok.small, hk, h.dok.calls⟩, ⟨h.xok.safe, h.xok.new, h.xok.is, h.xok.small, h.xok.fits, h.xok.fitn⟩, h.lo, h.now, h.old, rfl, h.calls, h.down⟩
end
end Go.Proofs.Ytclompapmbhijaa.Dk
