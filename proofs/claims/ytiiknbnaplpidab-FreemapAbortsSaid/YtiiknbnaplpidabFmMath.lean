/- what becomes of each page, in plain lists. -/
import Derived.Test.YtiiknbnaplpidabKit
namespace Go.Proofs.Ytiiknbnaplpidab.Fm
open Go.RowKit

def ints (l : List Int) : List Value := l.map (Value.int .i64)
@[simp] theorem ints_length (l : List Int) : (ints l).length = l.length := by simp [ints]
theorem ints_get (l : List Int) (k : Nat) (h : k < l.length) : (ints l)[k]? = some (.int .i64 l[k]) := by simp [ints, h]
theorem ints_set (l : List Int) (k : Nat) (x : Int) : (ints l).set k (.int .i64 x) = ints (l.set k x) := by simp [ints]
theorem ints_append (l m : List Int) : ints (l ++ m) = ints l ++ ints m := by simp [ints]
theorem ints_one (l : List Int) : ∀ u ∈ ints l, u.oneCell' = true := by
  intro u hu
  obtain ⟨x, _, rfl⟩ := List.mem_map.1 hu
  rfl

def inF (l : List Int) (i : Int) : Bool := decide (0 ≤ i ∧ i < l.length)
def useF (l : List Int) (i : Int) : List Int × Int :=
  if inF l i then (if l.getD i.toNat 0 = 0 then (l.set i.toNat 1, 0) else (l, 10)) else (l, 3)
def leaveF (l : List Int) (i : Int) : List Int × Int :=
  if inF l i then (if l.getD i.toNat 0 = 2 then (l.set i.toNat 0, 0) else if l.getD i.toNat 0 = 1 then (l.set i.toNat 3, 0) else (l, 9)) else (l, 3)
def firstF (l : List Int) (k : Int) : Nat := l.findIdx (· == k)
def takeF (l : List Int) : List Int × Int × Int :=
  if firstF l 0 < l.length then (l.set (firstF l 0) 2, firstF l 0, 0) else (l, 0, 11)
def turnOne (leaving fresh k : Int) : Int := if k = 3 then leaving else if k = 2 then fresh else k
def turnF (leaving fresh : Int) (l : List Int) : List Int := l.map (turnOne leaving fresh)
/-- the pages of a kind among the first n -/
def listTo (l : List Int) (k : Int) : Nat → List Int
  | 0 => []
  | n + 1 => listTo l k n ++ if l.getD n 0 = k then [(n : Int)] else []
def listF (l : List Int) (k : Int) : List Int := listTo l k l.length
theorem listTo_length (l : List Int) (k : Int) (n : Nat) : (listTo l k n).length ≤ n := by
  induction n with
  | zero => simp [listTo]
  | succ n ih => simp only [listTo, List.length_append]; split <;> simp <;> omega
theorem turnF_length (a b : Int) (l : List Int) : (turnF a b l).length = l.length := by simp [turnF]
/-- the first k are turned -/
def turnTo (a b : Int) (l : List Int) (k : Nat) : List Int := (l.take k).map (turnOne a b) ++ l.drop k
theorem turnTo_length (a b : Int) (l : List Int) (k : Nat) : (turnTo a b l k).length = l.length := by
  simp [turnTo]; omega
theorem turnTo_zero (a b : Int) (l : List Int) : turnTo a b l 0 = l := by simp [turnTo]
theorem turnTo_all (a b : Int) (l : List Int) : turnTo a b l l.length = turnF a b l := by simp [turnTo, turnF]
theorem turnTo_get (a b : Int) (l : List Int) (k : Nat) (h : k < l.length) : (turnTo a b l k).getD k 0 = l.getD k 0 := by
  unfold turnTo
  simp only [List.getD]
  rw [List.getElem?_append_right (by simp; omega)]
  simp [Nat.min_eq_left (Nat.le_of_lt h)]
theorem turnTo_succ (a b : Int) (l : List Int) (k : Nat) (h : k < l.length) : turnTo a b l (k + 1) = (turnTo a b l k).set k (turnOne a b (l.getD k 0)) := by
  have hk : l.getD k 0 = l[k] := by simp [List.getD, List.getElem?_eq_getElem h]
  have h0 : k - ((l.take k).map (turnOne a b)).length = 0 := by simp; omega
  rw [turnTo, turnTo, hk, List.take_succ_eq_append_getElem h, List.map_append, List.append_assoc, List.set_append_right _ _ (by simp; omega), h0, List.drop_eq_getElem_cons h]
  rfl
theorem set_getD (l : List Int) (k : Nat) : l.set k (l.getD k 0) = l := by
  rcases Nat.lt_or_ge k l.length with h | h
  · simp only [List.getD, List.getElem?_eq_getElem h, Option.getD_some]; exact List.set_getElem_self h
  · exact List.set_eq_of_length_le h
theorem turnTo_same (a b : Int) (l : List Int) (k : Nat) (h : k < l.length) (h3 : turnOne a b (l.getD k 0) = l.getD k 0) : turnTo a b l (k + 1) = turnTo a b l k := by
  rw [turnTo_succ a b l k h, h3, ← turnTo_get a b l k h, set_getD]
end Go.Proofs.Ytiiknbnaplpidab.Fm
