/- nodes: entries, and which may be. -/
import Derived.Test.YticehnnbjbliaabSlOf
import Derived.Deep.RegionHeld3
import Derived.Deep.DrawnRows
namespace Go.Proofs.Yticehnnbjbliaab.Nd
open Go.RowKit Sl
/-- an entry -/
structure E where
  key : ByteArray
  val : ByteArray
  far : Int
def E.agg (e : E) : Value := .agg #[.string e.key, .string e.val, .int .i64 e.far]
def E.cells (e : E) : List Value := [.string e.key, .string e.val, .int .i64 e.far]
def rightP (e : E) (leaf : Bool) : Prop := e.key.size ≤ 32 ∧ e.val.size ≤ 40 ∧ (if leaf = true then -1 else 0) ≤ e.far ∧ e.far < 512 ∧ (e.far < 0 ∨ e.val.size = 0)
instance (e : E) (leaf : Bool) : Decidable (rightP e leaf) := by unfold rightP; exact inferInstance
theorem size_zero {s : ByteArray} (h : s.size = 0) : s = .empty := by
  apply ByteArray.ext
  exact Array.eq_empty_of_size_eq_zero h
theorem toL_empty {s : ByteArray} (h : s.size ≠ 0) : s.toList.isEmpty = false := by
  cases e : s.toList with
  | nil =>
    refine absurd ?_ h
    rw [bytes_toList] at e
    show s.data.size = 0
    rw [← Array.length_toList, e]; rfl
  | cons a l => rfl
set_option maxHeartbeats 1000000 in
theorem right_any (w : World) (e : E) (leaf : Bool) :
    Calls Try.prog 38 #[e.agg, .bool leaf] w fun r w' => r = .returned (.bool (decide (rightP e leaf))) ∧ Below w.heap.size w w' := by
  have O0 := Lib.hid ((Below.refl w.heap.size w).alloc (Nat.le_refl _) (.cells #[.string e.key, .string e.val, .int .i64 e.far] 56))
  have B0 := Blk.new w 56 #[.string e.key, .string e.val, .int .i64 e.far]
  have c0 := B0.cell_some (i := 0) rfl
  have c1 := B0.cell_some (i := 1) rfl
  have c2 := B0.cell_some (i := 2) rfl
  clear B0
  obtain ⟨b, hb⟩ : ∃ b, b = decide (rightP e leaf) := ⟨_, rfl⟩
  rw [← hb]
  replace hb := Lib.hid hb
  unfold E.agg
  obtain ⟨key, val, far⟩ := e
  dsimp only at *
  by_cases hv : val.size = 0
  · have hv2 := Lib.hid hv
    obtain rfl := size_zero hv
    cases leaf
    all_goals
      go_enter Try.func38, Try.ntmps38
      go_wp2_with fail
    all_goals
      go_ret
      refine ⟨?_, O0.out⟩
      have h := hb.out
      have hv3 := hv2.out
      first
        | (rw [decide_eq_true (by unfold rightP; dsimp only; simp only [Bool.false_eq_true, if_false, if_true]; omega)] at h; subst h; rfl)
        | (rw [decide_eq_false (by unfold rightP; dsimp only; simp only [Bool.false_eq_true, if_false, if_true]; omega)] at h; subst h; rfl)
  · have hv2 := toL_empty hv
    have hv3 := Lib.hid hv
    clear hv
    by_cases hf : far < 0
    all_goals
      cases leaf
    all_goals
      go_enter Try.func38, Try.ntmps38
      go_wp2_with fail
    all_goals
      go_ret
      refine ⟨?_, O0.out⟩
      have h := hb.out
      have hv4 := hv3.out
      first
        | (rw [decide_eq_true (by unfold rightP; dsimp only; simp only [Bool.false_eq_true, if_false, if_true]; omega)] at h; subst h; rfl)
        | (rw [decide_eq_false (by unfold rightP; dsimp only; simp only [Bool.false_eq_true, if_false, if_true]; omega)] at h; subst h; rfl)
end Go.Proofs.Yticehnnbjbliaab.Nd
