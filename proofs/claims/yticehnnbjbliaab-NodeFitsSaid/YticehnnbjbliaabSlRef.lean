/- the document's slots by its contracts: num, Check. -/
import Derived.Test.YticehnnbjbliaabSl11
namespace Go.Proofs.Yticehnnbjbliaab.Sl
open Go.RowKit

set_option maxHeartbeats 400000 in
theorem num_any (s : ByteArray) (i : Int) (w : World) (h0 : 0 ≤ i) (h : i + 1 < s.size) (hs : s.size ≤ 1000000) :
    Calls Try.prog 30 #[.string s, .int .i64 i] w fun e w' => e = .returned (.int .i64 (at2 s.data.toList i.toNat : Nat)) ∧ Below w.heap.size w w' := by
  obtain ⟨k, rfl⟩ := Int.eq_ofNat_of_zero_le h0
  rw [Int.toNat_natCast]
  have hk : k < s.size := by omega
  have h : k + 1 < s.size := by omega
  have b0 := s[k].toNat_lt
  have b1 := s[k + 1].toNat_lt
  have HV := Lib.hid (show (s[k].toNat : Int) * 256 + (s[k + 1].toNat : Int) = ((at2 s.data.toList k : Nat) : Int) from by
    unfold at2; rw [getD_size _ _ hk, getD_size _ _ h]; omega)
  have e1 : IntKind.i64.wrap ((k : Int) + 1) = (k : Int) + 1 := IntWalk.i64_in _ (by omega)
  have e2 : (0 : Int) ≤ (k : Int) + 1 := by omega
  have e3 : ((k : Int) + 1).toNat = k + 1 := by omega
  have e7 : (k : Int) + 1 < (s.size : Int) := by omega
  have e8 : (k : Int) < (s.size : Int) := by omega
  have e4 : IntKind.i64.wrap (s[k].toNat : Int) = (s[k].toNat : Int) := IntWalk.i64_in _ (by omega)
  have e5 : IntKind.i64.wrap ((s[k].toNat : Int) * 256) = (s[k].toNat : Int) * 256 := IntWalk.i64_in _ (by omega)
  have e6 : IntKind.i64.wrap (s[k + 1].toNat : Int) = (s[k + 1].toNat : Int) := IntWalk.i64_in _ (by omega)
  have e9 : IntKind.i64.wrap ((s[k].toNat : Int) * 256 + (s[k + 1].toNat : Int)) = (s[k].toNat : Int) * 256 + (s[k + 1].toNat : Int) := IntWalk.i64_in _ (by omega)
  go_enter Try.func30, Try.ntmps30
  go_wp2
  go_quiet (fail)
  go_wp2
  go_ret
  refine ⟨?_, Below_drewN (Below.refl _ _) _⟩
  rw [← HV.out]
  rfl
/-- marks -/
def uc (f : Nat → Bool) : List Value := (List.range 232).map fun k => .int .i64 (if f k then 1 else 0)
theorem uc_length (f : Nat → Bool) : (uc f).length = 232 := by unfold uc; rw [List.length_map, List.length_range]
theorem uc_get (f : Nat → Bool) (k : Nat) (h : k < 232) : (uc f)[k]? = some (.int .i64 (if f k then 1 else 0)) := by
  unfold uc
  rw [List.getElem?_map, List.getElem?_range h]; rfl
theorem uc_set (f : Nat → Bool) (k : Nat) (h : k < 232) : (uc f).set k (.int .i64 1) = uc (fun j => f j || decide (j = k)) := by
  apply List.ext_getElem?
  intro j
  rw [List.getElem?_set]
  by_cases hj : j < 232
  · rw [uc_get _ _ hj, uc_get _ _ hj]
    by_cases e : k = j
    · subst e
      rw [if_pos rfl, if_pos (by rw [uc_length]; exact h)]
      simp
    · rw [if_neg e]
      have : decide (j = k) = false := by simp; omega
      rw [this, Bool.or_false]
  · rw [if_neg (by omega), List.getElem?_eq_none (by rw [uc_length]; omega), List.getElem?_eq_none (by rw [uc_length]; omega)]
theorem info_int : (Try.prog.info? 3).map (fun i => (i.zero, i.size, i.bytes)) = some (some (.int .i64 0), 1, 8) := by kernel_rfl
theorem uc_false : List.replicate 232 (Value.int .i64 0) = uc fun _ => false := by
  apply List.ext_getElem?
  intro j
  by_cases hj : j < 232
  · rw [uc_get _ _ hj, List.getElem?_replicate, if_pos hj]; rfl
  · rw [List.getElem?_eq_none (by rw [List.length_replicate]; omega), List.getElem?_eq_none (by rw [uc_length]; omega)]
theorem make_marks (w : World) :
    (Instr.makeSlice 65 (.int .i64 232) (.int .i64 232)).run Try.prog w = .ok (.slice (some ⟨w.heap.size, 0, none⟩) 232 232) (w.alloc (.cells (uc fun _ => false).toArray 3)) := by
  obtain ⟨i0, hi, hz0, hz1, hz2⟩ := info_parts info_int
  have h := run_make (P := Try.prog) w 65 3 i0 (.int .i64 0) Try.underlying65 hi hz0 .i64 .i64 232 232 (by omega) (Int.le_refl _) (by rw [hz2]; omega) (by omega)
  rw [h, hz1]
  have e : madeCells (Value.int .i64 0).cells (((232 : Int).toNat) * 1) = (uc fun _ => false).toArray := by
    rw [Nat.mul_one, show ((232 : Int).toNat) = 232 from rfl, show (Value.int .i64 0).cells = #[Value.int .i64 0] from rfl, madeCells_one, uc_false]
  rw [e]
  rfl
/-- which bytes are marked, while the slot k is being marked up to j -/
def mk2 (b : List UInt8) (k j : Nat) : Nat → Bool := fun i => cover ((slots b).take k) i || (decide ((slot b k).1 ≤ i) && decide (i < j))
theorem mk2_start (b : List UInt8) (k : Nat) : mk2 b k (slot b k).1 = fun i => cover ((slots b).take k) i := by
  funext i
  unfold mk2
  cases h : (decide ((slot b k).1 ≤ i) && decide (i < (slot b k).1))
  · simp
  · simp at h; omega
theorem mk2_step (b : List UInt8) (k j : Nat) (h : (slot b k).1 ≤ j) : (fun i => mk2 b k j i || decide (i = j)) = mk2 b k (j + 1) := by
  funext i
  unfold mk2
  rw [Bool.or_assoc]
  congr 1
  rw [Bool.eq_iff_iff]
  simp
  omega
theorem mk2_end (b : List UInt8) (k : Nat) (h : k < at2 b 0) : mk2 b k ((slot b k).1 + (slot b k).2) = fun i => cover ((slots b).take (k + 1)) i := by
  funext i
  unfold mk2
  rw [slots_take b k h]
  simp [cover]
theorem cover_in {l : List Slot} {i : Nat} (h : cover l i = true) : ∃ y ∈ l, y.1 ≤ i ∧ i < y.1 + y.2 := by
  simpa [cover] using h
/-- a byte that is marked twice -/
theorem mark_bad {b : List UInt8} (hl : b.length = 232) {k : Nat} (hk : k < at2 b 0) {j : Nat} (h1 : (slot b k).1 ≤ j) (h2 : j < (slot b k).1 + (slot b k).2) (hm : mk2 b k j j = true) : checkF b = 14 := by
  have hc : cover ((slots b).take k) j = true := by
    unfold mk2 at hm
    simpa using hm
  obtain ⟨y, hy, hy1, hy2⟩ := cover_in hc
  obtain ⟨i, hi, rfl⟩ := List.getElem_of_mem hy
  have hik : i < k := by simp at hi; omega
  have e : ((slots b).take k)[i] = slot b i := by simp [slots]
  rw [e] at hy1 hy2
  exact check_apart hl hk hik ((apart_no _ _).2 ⟨j, ⟨h1, h2⟩, ⟨hy1, hy2⟩⟩)
/-- none was -/
theorem mark_good {b : List UInt8} {k : Nat} (h : ∀ j, (slot b k).1 ≤ j → j < (slot b k).1 + (slot b k).2 → mk2 b k j j = false) (hk : k < at2 b 0) : ∀ i, i < k → apart (slot b k) (slot b i) = true := by
  intro i hi
  cases ha : apart (slot b k) (slot b i)
  · obtain ⟨j, ⟨h1, h2⟩, h3⟩ := (apart_no _ _).1 ha
    have hm := h j h1 h2
    unfold mk2 at hm
    simp only [Bool.or_eq_false_iff] at hm
    have : cover ((slots b).take k) j = true := by
      simp only [cover, List.any_eq_true, Bool.and_eq_true, decide_eq_true_eq]
      refine ⟨slot b i, ?_, h3⟩
      exact List.mem_of_getElem? (i := i) (by rw [List.getElem?_take_of_lt hi, slots_get _ _ (by omega)])
    rw [this] at hm
    cases hm.1
  · rfl
end Go.Proofs.Yticehnnbjbliaab.Sl
