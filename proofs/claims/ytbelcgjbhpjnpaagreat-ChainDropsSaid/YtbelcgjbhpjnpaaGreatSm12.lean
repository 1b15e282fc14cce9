/- the document's store, with empty places behind. -/
import Derived.Test.YtbelcgjbhpjnpaaGreatMb
import Derived.Test.YtbelcgjbhpjnpaaGreatTb
set_option linter.all false
set_option linter.unusedVariables false
set_option linter.unusedSimpArgs false
namespace Go.Proofs.YtbelcgjbhpjnpaaGreat.Sh
open Go.RowKit Pk Dk Pg
theorem pad_zero (b : St) : b.pad 0 = b := by unfold St.pad; simp
theorem pad_pad (b : St) (j k : Nat) : (b.pad j).pad k = b.pad (j + k) := by unfold St.pad; simp [List.append_assoc, List.replicate_append_replicate]
theorem pad_get {α : Type} (l : List (Option α)) (k i : Nat) : ((l ++ List.replicate k none)[i]?).getD none = (l[i]?).getD none := by
 by_cases h : i < l.length
 ·rw [List.getElem?_append_left h]
 ·rw [List.getElem?_append_right (by omega), List.getElem?_eq_none (l := l) (by omega), List.getElem?_replicate]
  split <;> rfl
theorem pad_at (b : St) (k : Nat) (l : Int) : (b.pad k).at l = b.at l := by
 unfold St.at
 show (if 0 ≤ l then ((b.now ++ List.replicate k none)[l.toNat]?).getD none else none) = _
 rw [pad_get]
theorem pad_fresh (b : St) (k : Nat) : (b.pad k).fresh = b.fresh := by
 unfold St.fresh
 show (b.now ++ List.replicate k none).countP isFresh = _
 rw [List.countP_append, List.countP_replicate]
 simp [isFresh]
theorem pad_kept (b : St) (k : Nat) : (b.pad k).kept = b.kept := rfl
theorem pad_free (b : St) (k : Nat) : (b.pad k).free = b.free := by
 unfold St.free
 rw [pad_fresh, pad_kept]
 rfl
theorem pad_slot (b : St) (k : Nat) : (b.pad k).slot = b.slot := by
 unfold St.slot
 show (b.now ++ List.replicate k none).findIdx Option.isNone = _
 rw [List.findIdx_append]
 split
 ·rfl
 ·rename_i h
  have h1 : b.now.findIdx Option.isNone = b.now.length := by
   have := List.findIdx_le_length (xs := b.now) (p := Option.isNone)
   omega
  cases k with
  | zero => simp [h1]
  | succ k => simp [List.replicate_succ, List.findIdx_cons, h1]
theorem pad_set {α : Type} (l : List (Option α)) (k i : Nat) (u : Option α) (h : i < l.length) : (l ++ List.replicate k none).set i u = l.set i u ++ List.replicate k none := List.set_append_left _ _ h
theorem pad_new (b : St) (k : Nat) (p : List UInt8) : ∃ k', (b.pad k).newF p = ((b.newF p).1.pad k', (b.newF p).2) := by
 unfold St.newF
 rw [pad_slot, pad_free]
 by_cases h1 : 232 < p.length
 ·rw [if_pos h1, if_pos h1]; exact ⟨k, rfl⟩
 rw [if_neg h1, if_neg h1]
 by_cases h2 : 512 ≤ b.slot ∨ b.free = 0
 ·rw [if_pos h2, if_pos h2]; exact ⟨k, rfl⟩
 rw [if_neg h2, if_neg h2]
 have hs : b.slot ≤ b.now.length := List.findIdx_le_length
 by_cases h3 : b.slot = b.now.length
 ·cases k with
  | zero => exact ⟨0, by rw [pad_zero, pad_zero]⟩
  | succ k =>
   refine ⟨k, ?_⟩
   unfold St.pad
   simp only [Prod.mk.injEq, St.mk.injEq, true_and, and_true]
   unfold putS
   rw [if_neg (by simp; omega), if_pos h3, h3, List.set_append_right _ _ (Nat.le_refl _), Nat.sub_self, List.replicate_succ]
   simp
 ·refine ⟨k, ?_⟩
  unfold St.pad
  simp only [Prod.mk.injEq, St.mk.injEq, true_and, and_true]
  unfold putS
  rw [if_neg (by simp; omega), if_neg h3, pad_set _ _ _ _ (by omega)]
theorem at_some_lt {b : St} {l : Int} (h : (b.at l).isSome = true) : 0 ≤ l ∧ l.toNat < b.now.length := by
 unfold St.at at h
 by_cases h0 : 0 ≤ l
 ·rw [if_pos h0] at h
  refine ⟨h0, Nat.lt_of_not_le (fun hle => ?_)⟩
  rw [List.getElem?_eq_none hle] at h
  simp at h
 ·rw [if_neg h0] at h; simp at h
theorem pad_write (b : St) (k : Nat) (l : Int) (p : List UInt8) : (b.pad k).writeF l p = ((b.writeF l p).1.pad k, (b.writeF l p).2) := by
 unfold St.writeF
 rw [pad_at, pad_free]
 by_cases h1 : 232 < p.length
 ·rw [if_pos h1, if_pos h1]
 rw [if_neg h1, if_neg h1]
 by_cases h2 : ¬ (b.at l).isSome = true
 ·rw [if_pos h2, if_pos h2]
 rw [if_neg h2, if_neg h2]
 by_cases h3 : isFresh (b.at l) = false ∧ b.free = 0
 ·rw [if_pos h3, if_pos h3]
 rw [if_neg h3, if_neg h3]
 unfold St.pad
 simp only [Prod.mk.injEq, St.mk.injEq, true_and, and_true]
 exact pad_set _ _ _ _ (at_some_lt (Decidable.not_not.1 h2)).2
theorem pad_drop (b : St) (k : Nat) (l : Int) : (b.pad k).dropF l = ((b.dropF l).1.pad k, (b.dropF l).2) := by
 unfold St.dropF
 rw [pad_at]
 by_cases h2 : (b.at l).isSome = true
 ·rw [if_pos h2, if_pos h2]
  unfold St.pad
  simp only [Prod.mk.injEq, St.mk.injEq, true_and, and_true]
  exact pad_set _ _ _ _ (at_some_lt h2).2
 ·rw [if_neg h2, if_neg h2]
theorem trimN_succ (l : List Sl14) (k : Nat) : trimN l (k + 1) = if ((l[k]?).getD none).isSome then k + 1 else trimN l k := rfl
theorem trimN_app {α : Type} (f : List (Option (Bool × List UInt8)) → α) (l : List Sl14) (k : Nat) : trimN (l ++ List.replicate k none) (l.length + k) = trimN l l.length := by
 have h1 : ∀ j, j ≤ l.length → trimN (l ++ List.replicate k none) j = trimN l j := by
  intro j
  induction j with
  | zero => intro _; rfl
  | succ j ih =>
   intro hj
   unfold trimN
   rw [pad_get, ih (by omega)]
 have h2 : ∀ j, trimN (l ++ List.replicate k none) (l.length + j) = trimN (l ++ List.replicate k none) l.length := by
  intro j
  induction j with
  | zero => rfl
  | succ j ih =>
   rw [show l.length + (j + 1) = (l.length + j) + 1 by omega, trimN_succ, pad_get, List.getElem?_eq_none (by omega), if_neg (by simp)]
   exact ih
 rw [h2, h1 _ (Nat.le_refl _)]
theorem pad_next (b : St) (k : Nat) : (b.pad k).nextF = b.nextF := by
 unfold St.nextF
 show ((b.now ++ List.replicate k none).take (trimN (b.now ++ List.replicate k none) (b.now ++ List.replicate k none).length)).map _ = _
 have hl : (b.now ++ List.replicate k (none : Sl14)).length = b.now.length + k := by simp
 have h2 := trimN_app (fun x => x) b.now k
 rw [hl, h2]
 have := trimN_le b.now b.now.length
 rw [List.take_append_of_le_length this]
end Go.Proofs.YtbelcgjbhpjnpaaGreat.Sh
