/- crc: Lay by its contract. -/
import Derived.Test.YtmofbgcanehdoaaCrc
namespace Go.Proofs.Ytmofbgcanehdoaa.Crc
open Go.RowKit
theorem info_u8 : (Try.prog.info? 5).map (fun i => (i.zero, i.size, i.bytes)) = some (some (.int .u8 0), 1, 1) := by kernel_rfl
theorem size_u8 : (Try.prog.info? 5).map (·.size) = some 1 := by kernel_rfl

theorem make_bytes (n : Int) (h0 : 0 ≤ n) (h1 : n ≤ 140737488355328) (w : World) :
    (Instr.makeSlice 62 (.int .i64 n) (.int .i64 n)).run Try.prog w = .ok (.slice (some ⟨w.heap.size, 0, none⟩) n.toNat n.toNat) (w.alloc (.cells (madeCells #[.int .u8 0] n.toNat) 5)) := by
  obtain ⟨i0, hi, hz0, hz1, hz2⟩ := info_parts info_u8
  have h := run_make (P := Try.prog) w 62 5 i0 (.int .u8 0) Try.underlying62 hi hz0 .i64 .i64 n n h0 (Int.le_refl _) (by rw [hz2]; omega) (by omega)
  simpa [hz1, Value.cells] using h

def fourV (n : Nat) : List Value := [.int .u8 ((n : Int) % 256), .int .u8 ((n : Int) / 256 % 256), .int .u8 ((n : Int) / 65536 % 256), .int .u8 ((n : Int) / 16777216 % 256)]
theorem fourV_eq (n : Nat) : fourV n = bvs (fourL n) := by
  have t : ∀ n : Nat, (UInt8.ofNat (n % 256)).toNat = n % 256 := fun n => by simp
  simp only [fourV, bvs, fourL, List.map, bv, t]
  rfl
theorem fourV_one (n : Nat) : ∀ v ∈ fourV n, v.oneCell' = true := by rw [fourV_eq]; exact bvs_one _

theorem lay_cells (l : List UInt8) (n : Nat) (hn : n = l.length) (z : Value) : putAt (putAt (List.replicate (4 + n) z) 0 (fourV (sumF l))) 4 (bvs (l.take n)) = bvs (layF l) := by
  subst hn
  have h4 : (fourV (sumF l)).length = 4 := rfl
  have e1 : putAt (List.replicate (4 + l.length) z) 0 (fourV (sumF l)) = fourV (sumF l) ++ List.replicate l.length z := by
    simp [putAt, h4]
  rw [e1, layF, bvs_append, ← fourV_eq]
  unfold putAt
  rw [List.take_append_of_le_length (by simp [h4]), List.take_of_length_le (by simp [h4]), List.drop_eq_nil_of_le (by simp [h4])]
  simp

set_option maxHeartbeats 400000 in
theorem lay_any (s : ByteArray) (w : World) (hs : s.size ≤ 100000000) :
    Calls Try.prog 35 #[.string s] w fun e w' => e = .returned (.string ⟨(layF s.data.toList).toArray⟩) ∧ Below w.heap.size w w' := by
  have hmk := fun w' => make_bytes (4 + s.size) (by omega) (by omega) w'
  go_enter Try.func35, Try.ntmps35
  go_wp2_with (first | (go_at_call 54; refine (sum_any _ _ (by unfold maxLen; omega)).mono ?_; rintro e w1 ⟨rfl, hb1⟩) | (go_at_call 53; refine (four_any _ _ (sumF_lt _)).mono ?_; rintro e w2 ⟨rfl, hb2⟩))
  clear hmk
  rw [madeCells_one] at hb1
  have hz1 : w.heap.size < w1.heap.size := by have := hb1.size; simp at this; omega
  have hz2 : w.heap.size < w2.heap.size := by have := hb2.size; omega
  have B1 : Blk w2 w.heap.size 5 (List.replicate (4 + s.size) (.int .u8 0)).toArray := ((Blk.new _ _ _).below hb1 (by simp)).below hb2 hz1
  have B2 := B1.alloc (.cells (fourV (sumF s.data.toList)).toArray 82)
  have B3 := Blk.new w2 82 (fourV (sumF s.data.toList)).toArray
  have O3 : Below w.heap.size w (w2.alloc (.cells (fourV (sumF s.data.toList)).toArray 82)) :=
    ((((Below.refl _ _).alloc (Nat.le_refl _) _).trans (hb1.mono (by simp))).trans (hb2.mono (by omega))).alloc (by omega) _
  change Oper.upon _ _ _ _ _ ((Sem.run _ _ (w2.alloc (.cells (fourV (sumF s.data.toList)).toArray 82))).andThen _)
  generalize (w2.alloc (.cells (fourV (sumF s.data.toList)).toArray 82)) = W at B2 B3 O3 ⊢
  obtain ⟨W4, e4, B4, O4⟩ := copy_cells (P := Try.prog) B2 62 62 3 5 0 (4 + s.size) (4 + s.size) ⟨w2.heap.size, 0, none⟩ 4 4 (fourV (sumF s.data.toList)) Try.underlying62 size_u8
    (by show 4 = min 4 (4 + s.size); omega) (cells_at B3 0 _ (by simp)) (by show 0 + 4 ≤ _; simp) (fourV_one _)
  rw [e4]
  clear e4 B1 B2 B3
  have O5 := O3.trans (O4.below_of O3.size (by simp))
  go_wp2
  · have hs0 : s = ByteArray.empty := by assumption
    obtain ⟨W5, e5, B5, O6⟩ := copy_string (P := Try.prog) B4 62 9 3 5 0 0 0 ByteArray.empty 0 Try.underlying62 size_u8 (by rfl) (by simp)
    have eb : putAt (putAt (List.replicate (4 + s.size) (.int .u8 0)) 0 (fourV (sumF s.data.toList))) 0 (bvs (ByteArray.empty.data.toList.take 0)) = bvs (layF s.data.toList) := by
      subst hs0
      have := lay_cells ByteArray.empty.data.toList 0 rfl (.int .u8 0)
      rw [← this, List.take_zero]
      exact (putAt_nil _ _).trans (putAt_nil _ _).symm
    rw [eb] at B5
    have hst := run_string_of (P := Try.prog) W5 62 9 5 Try.underlying62 Try.underlying5 Try.underlying9 ⟨w.heap.size, 0, none⟩ 4 4 (layF s.data.toList) (by subst hs0; rfl) (cells_at B5 0 _ (by simp))
    rw [e5]
    have O7 := O5.trans (O6.below_of O5.size (by simp))
    clear e5 B4 B5 eb
    go_wp2
    go_ret
    exact ⟨by subst hs0; rfl, O7⟩
  · obtain ⟨W5, e5, B5, O6⟩ := copy_string (P := Try.prog) B4 62 9 3 5 4 s.size s.size s s.size Try.underlying62 size_u8 (by simp) (by rw [putAt_length (by show 0 + 4 ≤ _; simp)]; simp)
    rw [lay_cells _ _ (by simp)] at B5
    have hst := run_string_of (P := Try.prog) W5 62 9 5 Try.underlying62 Try.underlying5 Try.underlying9 ⟨w.heap.size, 0, none⟩ (4 + s.size) (4 + s.size) (layF s.data.toList) (by simp [layF, fourL]; omega) (cells_at B5 0 _ (by simp))
    rw [e5]
    have O7 := O5.trans (O6.below_of O5.size (by simp))
    clear e5 B4 B5
    go_wp2
    go_ret
    exact ⟨rfl, O7⟩
end Go.Proofs.Ytmofbgcanehdoaa.Crc
