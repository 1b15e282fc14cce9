/- disk by its contracts: Loose, New, what is left of a loose sector. -/
import Derived.Test.YtmofbgcanehdoaaDisk4
namespace Go.Proofs.Ytmofbgcanehdoaa.Dk
open Go.RowKit
attribute [local go_sem ↓] exec_ld exec_st exec_zero

def looseTo (l : List Bool) (k : Nat) : Nat := (l.take k).count true
theorem looseTo_succ (l : List Bool) (k : Nat) (h : k < l.length) : looseTo l (k + 1) = looseTo l k + if l.getD k false then 1 else 0 := by
  unfold looseTo
  rw [List.take_succ_eq_append_getElem h, List.count_append]
  have e : l.getD k false = l[k] := by simp [List.getD, List.getElem?_eq_getElem h]
  rw [e]
  cases l[k] <;> simp
theorem looseTo_le (l : List Bool) (k : Nat) : looseTo l k ≤ k := by
  unfold looseTo
  have := List.count_le_length (a := true) (l := l.take k)
  simp at this; omega
theorem new_no (n : Int) (w : World) (h : n < 1 ∨ 4096 < n) :
    Calls Try.prog 15 #[.int .i64 n] w fun e w' => e = .returned (.tuple #[.pointer none, .int .i64 2]) ∧ w = w' := by
  have h' : n < 1 ∨ (¬ n < 1 ∧ 4096 < n) := by omega
  clear h
  rcases h' with h | ⟨h, h1⟩
  all_goals
    go_enter Try.func15, Try.ntmps15
    go_wp2
    go_ret2
    exact ⟨rfl, rfl⟩
def D.zero (n : Nat) : D := { now := List.replicate (64 * n) 0, old := List.replicate (64 * n) 0, loose := List.replicate n false, armed := 0, calls := 0, down := false }
theorem info_bytes : (Try.prog.info? 80).map (fun i => (i.zero, i.size, i.bytes)) = some (some zero64, 64, 64) := by kernel_rfl
theorem info_bool : (Try.prog.info? 4).map (fun i => (i.zero, i.size, i.bytes)) = some (some (.bool false), 1, 1) := by kernel_rfl
theorem madeCells_zeros (n : Nat) : madeCells zero64.cells (n * 64) = (bvs (List.replicate (64 * n) 0)).toArray := by
  have h0 : zero64.cells = (List.replicate 64 (Value.int .u8 0)).toArray := by
    show (bvs (List.replicate 64 0)).toArray = _
    rw [bvs, List.map_replicate]; rfl
  have hz : ∀ k, k < 64 → zero64.cells[k]! = .int .u8 0 := by
    intro k h
    rw [h0, getElem!_pos _ k (by rw [List.size_toArray, List.length_replicate]; exact h), List.getElem_toArray, List.getElem_replicate]
  have hs : zero64.cells.size = 64 := by rw [h0, List.size_toArray, List.length_replicate]
  apply Array.ext
  · simp [size_madeCells]; omega
  · intro i h1 h2
    simp only [madeCells, hs]
    rw [Array.getElem_map, Array.getElem_range, hz _ (Nat.mod_lt _ (by decide))]
    simp [bvs, bv]
def rowN (n : Nat) : Obj := .cells (bvs (List.replicate (64 * n) 0)).toArray 80
def rowL (n : Nat) : Obj := .cells (bools (List.replicate n false)).toArray 4
theorem make_rows (n : Nat) (hn : n ≤ 4096) (w : World) :
    (Instr.makeSlice 72 (.int .i64 n) (.int .i64 n)).run Try.prog w = .ok (.slice (some ⟨w.heap.size, 0, none⟩) n n) (w.alloc (rowN n)) := by
  obtain ⟨i0, hi, hz0, hz1, hz2⟩ := info_parts info_bytes
  have h := run_make (P := Try.prog) w 72 80 i0 zero64 Try.underlying72 hi hz0 .i64 .i64 n n (by omega) (Int.le_refl _) (by rw [hz2]; omega) (by omega)
  rw [h, hz1]
  simp only [Int.toNat_natCast, madeCells_zeros]
  rfl
theorem make_loose (n : Nat) (hn : n ≤ 4096) (w : World) :
    (Instr.makeSlice 46 (.int .i64 n) (.int .i64 n)).run Try.prog w = .ok (.slice (some ⟨w.heap.size, 0, none⟩) n n) (w.alloc (rowL n)) := by
  obtain ⟨i0, hi, hz0, hz1, hz2⟩ := info_parts info_bool
  have h := run_make (P := Try.prog) w 46 4 i0 (.bool false) Try.underlying46 hi hz0 .i64 .i64 n n (by omega) (Int.le_refl _) (by rw [hz2]; omega) (by omega)
  rw [h, hz1]
  have e : madeCells (Value.bool false).cells (((n : Int).toNat) * 1) = (bools (List.replicate n false)).toArray := by
    show madeCells #[Value.bool false] (n * 1) = _
    rw [Nat.mul_one, madeCells_one]; simp [bools]
  rw [e]
  rfl
theorem four (w : World) (a b c d : Obj) : ((((w.alloc a).alloc b).alloc c).alloc d).heap[w.heap.size]? = some a ∧ ((((w.alloc a).alloc b).alloc c).alloc d).heap[w.heap.size + 1]? = some b ∧ ((((w.alloc a).alloc b).alloc c).alloc d).heap[w.heap.size + 1 + 1]? = some c ∧ ((((w.alloc a).alloc b).alloc c).alloc d).heap[w.heap.size + 1 + 1 + 1]? = some d := by
  have s1 : (w.alloc a).heap.size = w.heap.size + 1 := by simp
  have s2 : ((w.alloc a).alloc b).heap.size = w.heap.size + 1 + 1 := by simp
  have s3 : (((w.alloc a).alloc b).alloc c).heap.size = w.heap.size + 1 + 1 + 1 := by simp
  have e2 := heap_alloc_new (w.alloc a) b
  have e3 := heap_alloc_new ((w.alloc a).alloc b) c
  have e4 := heap_alloc_new (((w.alloc a).alloc b).alloc c) d
  rw [s1] at e2
  rw [s2] at e3
  rw [s3] at e4
  exact ⟨(Below.heap_alloc _ d _ (by omega)).trans ((Below.heap_alloc _ c _ (by omega)).trans ((Below.heap_alloc _ b _ (by omega)).trans (heap_alloc_new w a))), (Below.heap_alloc _ d _ (by omega)).trans ((Below.heap_alloc _ c _ (by omega)).trans e2), (Below.heap_alloc _ d _ (by omega)).trans e3, e4⟩
theorem below4 (w : World) (a b c d : Obj) : Below w.heap.size w ((((w.alloc a).alloc b).alloc c).alloc d).drew :=
  (((((Below.refl _ _).alloc (Nat.le_refl _) _).alloc (by simp) _).alloc (by simp; omega) _).alloc (by simp; omega) _).drew
theorem zero_ok (n : Nat) (hn : n ≤ 4096) : (D.zero n).Ok n := ⟨by simp [D.zero], by simp [D.zero], by simp [D.zero], hn, Int.le_refl 0, Int.le_refl 0⟩
set_option maxHeartbeats 2000000 in
theorem new_yes (n : Nat) (w : World) (h1 : 1 ≤ n) (hn : n ≤ 4096) :
    Calls Try.prog 15 #[.int .i64 n] w fun e w' => ∃ L, e = .returned (.tuple #[dp L.b, .int .i64 0]) ∧ DiskAt w' L n (D.zero n) ∧ Below w.heap.size w w' ∧ (∀ x ∈ L.fp, w.heap.size ≤ x) := by
  have m1 := make_rows n hn
  have m2 := make_loose n hn
  go_enter Try.func15, Try.ntmps15
  go_wp2
  go_region
  all_goals go_wp2
  all_goals go_ret2
  all_goals first | exact ⟨⟨w.heap.size + 1 + 1 + 1, w.heap.size, w.heap.size + 1, w.heap.size + 1 + 1⟩, rfl, ⟨.of_eq (four w (rowN n) (rowN n) (rowL n) (.cells (fields ⟨w.heap.size + 1 + 1 + 1, w.heap.size, w.heap.size + 1, w.heap.size + 1 + 1⟩ n (D.zero n)) 74)).2.2.2, .of_eq (four w (rowN n) (rowN n) (rowL n) (.cells (fields ⟨w.heap.size + 1 + 1 + 1, w.heap.size, w.heap.size + 1, w.heap.size + 1 + 1⟩ n (D.zero n)) 74)).1, .of_eq (four w (rowN n) (rowN n) (rowL n) (.cells (fields ⟨w.heap.size + 1 + 1 + 1, w.heap.size, w.heap.size + 1, w.heap.size + 1 + 1⟩ n (D.zero n)) 74)).2.1, .of_eq (four w (rowN n) (rowN n) (rowL n) (.cells (fields ⟨w.heap.size + 1 + 1 + 1, w.heap.size, w.heap.size + 1, w.heap.size + 1 + 1⟩ n (D.zero n)) 74)).2.2.1, by dsimp only; omega, zero_ok n hn⟩, below4 w _ _ _ _, by simp [Loc.fp]; omega⟩ | exact ⟨⟨w.heap.size + 1 + 1 + 1, w.heap.size, w.heap.size + 1 + 1, w.heap.size + 1⟩, rfl, ⟨.of_eq (four w (rowN n) (rowL n) (rowN n) (.cells (fields ⟨w.heap.size + 1 + 1 + 1, w.heap.size, w.heap.size + 1 + 1, w.heap.size + 1⟩ n (D.zero n)) 74)).2.2.2, .of_eq (four w (rowN n) (rowL n) (rowN n) (.cells (fields ⟨w.heap.size + 1 + 1 + 1, w.heap.size, w.heap.size + 1 + 1, w.heap.size + 1⟩ n (D.zero n)) 74)).1, .of_eq (four w (rowN n) (rowL n) (rowN n) (.cells (fields ⟨w.heap.size + 1 + 1 + 1, w.heap.size, w.heap.size + 1 + 1, w.heap.size + 1⟩ n (D.zero n)) 74)).2.2.1, .of_eq (four w (rowN n) (rowL n) (rowN n) (.cells (fields ⟨w.heap.size + 1 + 1 + 1, w.heap.size, w.heap.size + 1 + 1, w.heap.size + 1⟩ n (D.zero n)) 74)).2.1, by dsimp only; omega, zero_ok n hn⟩, below4 w _ _ _ _, by simp [Loc.fp]; omega⟩ | exact ⟨⟨w.heap.size + 1 + 1 + 1, w.heap.size + 1, w.heap.size, w.heap.size + 1 + 1⟩, rfl, ⟨.of_eq (four w (rowN n) (rowN n) (rowL n) (.cells (fields ⟨w.heap.size + 1 + 1 + 1, w.heap.size + 1, w.heap.size, w.heap.size + 1 + 1⟩ n (D.zero n)) 74)).2.2.2, .of_eq (four w (rowN n) (rowN n) (rowL n) (.cells (fields ⟨w.heap.size + 1 + 1 + 1, w.heap.size + 1, w.heap.size, w.heap.size + 1 + 1⟩ n (D.zero n)) 74)).2.1, .of_eq (four w (rowN n) (rowN n) (rowL n) (.cells (fields ⟨w.heap.size + 1 + 1 + 1, w.heap.size + 1, w.heap.size, w.heap.size + 1 + 1⟩ n (D.zero n)) 74)).1, .of_eq (four w (rowN n) (rowN n) (rowL n) (.cells (fields ⟨w.heap.size + 1 + 1 + 1, w.heap.size + 1, w.heap.size, w.heap.size + 1 + 1⟩ n (D.zero n)) 74)).2.2.1, by dsimp only; omega, zero_ok n hn⟩, below4 w _ _ _ _, by simp [Loc.fp]; omega⟩ | exact ⟨⟨w.heap.size + 1 + 1 + 1, w.heap.size + 1, w.heap.size + 1 + 1, w.heap.size⟩, rfl, ⟨.of_eq (four w (rowL n) (rowN n) (rowN n) (.cells (fields ⟨w.heap.size + 1 + 1 + 1, w.heap.size + 1, w.heap.size + 1 + 1, w.heap.size⟩ n (D.zero n)) 74)).2.2.2, .of_eq (four w (rowL n) (rowN n) (rowN n) (.cells (fields ⟨w.heap.size + 1 + 1 + 1, w.heap.size + 1, w.heap.size + 1 + 1, w.heap.size⟩ n (D.zero n)) 74)).2.1, .of_eq (four w (rowL n) (rowN n) (rowN n) (.cells (fields ⟨w.heap.size + 1 + 1 + 1, w.heap.size + 1, w.heap.size + 1 + 1, w.heap.size⟩ n (D.zero n)) 74)).2.2.1, .of_eq (four w (rowL n) (rowN n) (rowN n) (.cells (fields ⟨w.heap.size + 1 + 1 + 1, w.heap.size + 1, w.heap.size + 1 + 1, w.heap.size⟩ n (D.zero n)) 74)).1, by dsimp only; omega, zero_ok n hn⟩, below4 w _ _ _ _, by simp [Loc.fp]; omega⟩ | exact ⟨⟨w.heap.size + 1 + 1 + 1, w.heap.size + 1 + 1, w.heap.size, w.heap.size + 1⟩, rfl, ⟨.of_eq (four w (rowN n) (rowL n) (rowN n) (.cells (fields ⟨w.heap.size + 1 + 1 + 1, w.heap.size + 1 + 1, w.heap.size, w.heap.size + 1⟩ n (D.zero n)) 74)).2.2.2, .of_eq (four w (rowN n) (rowL n) (rowN n) (.cells (fields ⟨w.heap.size + 1 + 1 + 1, w.heap.size + 1 + 1, w.heap.size, w.heap.size + 1⟩ n (D.zero n)) 74)).2.2.1, .of_eq (four w (rowN n) (rowL n) (rowN n) (.cells (fields ⟨w.heap.size + 1 + 1 + 1, w.heap.size + 1 + 1, w.heap.size, w.heap.size + 1⟩ n (D.zero n)) 74)).1, .of_eq (four w (rowN n) (rowL n) (rowN n) (.cells (fields ⟨w.heap.size + 1 + 1 + 1, w.heap.size + 1 + 1, w.heap.size, w.heap.size + 1⟩ n (D.zero n)) 74)).2.1, by dsimp only; omega, zero_ok n hn⟩, below4 w _ _ _ _, by simp [Loc.fp]; omega⟩ | exact ⟨⟨w.heap.size + 1 + 1 + 1, w.heap.size + 1 + 1, w.heap.size + 1, w.heap.size⟩, rfl, ⟨.of_eq (four w (rowL n) (rowN n) (rowN n) (.cells (fields ⟨w.heap.size + 1 + 1 + 1, w.heap.size + 1 + 1, w.heap.size + 1, w.heap.size⟩ n (D.zero n)) 74)).2.2.2, .of_eq (four w (rowL n) (rowN n) (rowN n) (.cells (fields ⟨w.heap.size + 1 + 1 + 1, w.heap.size + 1 + 1, w.heap.size + 1, w.heap.size⟩ n (D.zero n)) 74)).2.2.1, .of_eq (four w (rowL n) (rowN n) (rowN n) (.cells (fields ⟨w.heap.size + 1 + 1 + 1, w.heap.size + 1 + 1, w.heap.size + 1, w.heap.size⟩ n (D.zero n)) 74)).2.1, .of_eq (four w (rowL n) (rowN n) (rowN n) (.cells (fields ⟨w.heap.size + 1 + 1 + 1, w.heap.size + 1 + 1, w.heap.size + 1, w.heap.size⟩ n (D.zero n)) 74)).1, by dsimp only; omega, zero_ok n hn⟩, below4 w _ _ _ _, by simp [Loc.fp]; omega⟩
end Go.Proofs.Ytmofbgcanehdoaa.Dk
