/- slots by its contracts: put, Empty. -/
import Derived.Test.YticehnnbjbliaabSl
namespace Go.Proofs.Yticehnnbjbliaab.Sl
open Go.RowKit

theorem Slc.set1 {w : World} {e : TypeId} {g n cap : Nat} {l : List Value} (S : Slc w e 1 (.slice (some ⟨g, 0, none⟩) n cap) n l) (k : Nat) (hk : k < n) (x : Value) : Slc (w.setCell ⟨g, k, none⟩ x) e 1 (.slice (some ⟨g, 0, none⟩) n cap) n (l.set k x) := by
  have hl : l.length = n := by have := S.1; omega
  rcases S.2 with ⟨h0, _⟩ | ⟨g', cap', rest, hv, B, hc, hm⟩
  · cases h0
  · simp only [Value.slice.injEq, Option.some.injEq, Addr.mk.injEq, and_true, true_and] at hv
    obtain ⟨rfl, rfl⟩ := hv
    refine ⟨by simp [hl], .inr ⟨g, cap, rest, rfl, ?_, by simpa using hc, hm⟩⟩
    have := B.set_ k x
    rw [List.setIfInBounds_toArray, List.set_append_left _ _ (by omega)] at this
    exact this
theorem Slc.cell {w : World} {e : TypeId} {g n cap : Nat} {l : List Value} (S : Slc w e 1 (.slice (some ⟨g, 0, none⟩) n cap) n l) (k : Nat) (hk : k < n) (x : Value) (hx : l[k]? = some x) : w.cell? ⟨g, k, none⟩ = some x ∧ w.frozen? ⟨g, k, none⟩ = false := by
  have hl : l.length = n := by have := S.1; omega
  rcases S.2 with ⟨h0, _⟩ | ⟨g', cap', rest, hv, B, hc, hm⟩
  · cases h0
  · simp only [Value.slice.injEq, Option.some.injEq, Addr.mk.injEq, and_true, true_and] at hv
    obtain ⟨rfl, rfl⟩ := hv
    exact ⟨B.cell_some (by rw [List.getElem?_toArray, List.getElem?_append_left (by omega)]; exact hx), B.frozen k (by simp; omega)⟩
/-- bytes of the call's own -/
def Buf (w : World) (v : Value) (F : List UInt8) : Prop := Slc w 5 1 v F.length (bvs F)
theorem Buf.form {w : World} {v : Value} {F : List UInt8} (S : Buf w v F) (h : 0 < F.length) : ∃ g cap, v = .slice (some ⟨g, 0, none⟩) F.length cap ∧ F.length ≤ cap := by
  obtain ⟨g, cap, rest, rfl, B, hc, _⟩ := Slc.form S h (by omega)
  exact ⟨g, cap, rfl, hc⟩
theorem info_u8 : (Try.prog.info? 5).map (fun i => (i.zero, i.size, i.bytes)) = some (some (.int .u8 0), 1, 1) := by kernel_rfl
set_option maxHeartbeats 400000 in
theorem put_any {w : World} {v : Value} {F : List UInt8} (S : Buf w v F) (i m : Int) (hi0 : 0 ≤ i) (hi : i + 1 < F.length) (hF : F.length ≤ 1000000) (hm0 : 0 ≤ m) (hm : m < 65536) :
    Calls Try.prog 45 #[v, .int .i64 i, .int .i64 m] w fun e w' => e = .returned (.tuple #[]) ∧ Buf w' v (put2 F i.toNat m.toNat) ∧ Only (ownB v) w w' := by
  obtain ⟨k, rfl⟩ := Int.eq_ofNat_of_zero_le hi0
  obtain ⟨n, rfl⟩ := Int.eq_ofNat_of_zero_le hm0
  obtain ⟨g, cap, rfl, hcap⟩ := S.form (by omega)
  have c0 := (Slc.cell S k (by omega) (bv F[k]) (by rw [bvs_get, List.getElem?_eq_getElem (by omega)]; rfl))
  have c1 := (Slc.cell S (k + 1) (by omega) (bv F[k + 1]) (by rw [bvs_get, List.getElem?_eq_getElem (by omega)]; rfl))
  obtain ⟨c0, z0⟩ := c0
  obtain ⟨c1, z1⟩ := c1
  have HS := Lib.hid (Slc.set1 (Slc.set1 S k (by omega) (bv (UInt8.ofNat (n / 256)))) (k + 1) (by omega) (bv (UInt8.ofNat n)))
  have HO := Lib.hid (show Only [g] w ((w.setCell ⟨g, k, none⟩ (bv (UInt8.ofNat (n / 256)))).setCell ⟨g, k + 1, none⟩ (bv (UInt8.ofNat n))) from ((Only.refl _ _).setCell (by simp) _).setCell (by simp) _)
  clear S
  generalize F[k] = x0 at *
  generalize F[k + 1] = x1 at *
  unfold bv at c0 c1
  go_enter Try.func45, Try.ntmps45
  go_wp2
  have e0 : bv (UInt8.ofNat (n / 256)) = .int .u8 ((n : Int) / 256) := by
    unfold bv
    congr 1
    rw [UInt8.toNat_ofNat']
    omega
  have e1 : bv (UInt8.ofNat n) = .int .u8 ((n : Int) % 256) := by
    unfold bv
    rfl
  have el : ((bvs F).set k (bv (UInt8.ofNat (n / 256)))).set (k + 1) (bv (UInt8.ofNat n)) = bvs (put2 F k n) := by
    simp [bvs, put2]
  have h1 := HS.out
  have h2 := HO.out
  rw [el] at h1
  rw [e0, e1] at h1 h2
  clear el e0 e1
  go_end0
  refine ⟨rfl, ?_, by simpa [ownB] using h2⟩
  rw [Int.toNat_natCast, Int.toNat_natCast]
  unfold Buf
  rw [put2_length]
  exact h1

theorem make_bytes (n : Nat) (h1 : n ≤ 140737488355328) (w : World) :
    (Instr.makeSlice 59 (.int .i64 n) (.int .i64 n)).run Try.prog w = .ok (.slice (some ⟨w.heap.size, 0, none⟩) n n) (w.alloc (.cells (bvs (List.replicate n 0)).toArray 5)) := by
  obtain ⟨i0, hi, hz0, hz1, hz2⟩ := info_parts info_u8
  have h := run_make (P := Try.prog) w 59 5 i0 (.int .u8 0) Try.underlying59 hi hz0 .i64 .i64 n n (by omega) (Int.le_refl _) (by rw [hz2]; omega) (by omega)
  rw [h, hz1]
  have e : madeCells (Value.int .u8 0).cells (((n : Int).toNat) * 1) = (bvs (List.replicate n 0)).toArray := by
    show madeCells #[Value.int .u8 0] (n * 1) = _
    rw [Nat.mul_one, madeCells_one]; simp [bvs, bv]
  rw [e]
  rfl
theorem Buf.string {w : World} {v : Value} {F : List UInt8} (S : Buf w v F) (h : 0 < F.length) : (convert 59 9 v).run Try.prog w = .ok (.string ⟨F.toArray⟩) w := by
  obtain ⟨g, cap, rest, rfl, B, _, _⟩ := Slc.form S h (by omega)
  exact run_string_of (P := Try.prog) w 59 9 5 Try.underlying59 Try.underlying5 Try.underlying9 ⟨g, 0, none⟩ F.length cap F rfl (cells_at B 0 (bvs F) (by
    intro j u hu
    rw [Nat.zero_add, List.getElem?_append_left]
    · exact hu
    · exact (List.getElem?_eq_some_iff.1 hu).1))
theorem Buf.only {w w' : World} {v : Value} {F : List UInt8} {S : List Nat} (B : Buf w v F) (ho : Only S w w') (hd : ∀ g ∈ ownB v, g ∉ S) : Buf w' v F := Slc.only B ho hd
theorem Buf.below {w w' : World} {v : Value} {F : List UInt8} (B : Buf w v F) (ho : Below w.heap.size w w') : Buf w' v F := Slc.below B ho
theorem Buf.new (w : World) (F : List UInt8) (h : F.length ≤ maxLen) : Buf (w.alloc (.cells (bvs F).toArray 5)) (.slice (some ⟨w.heap.size, 0, none⟩) F.length F.length) F :=
  ⟨by simp, .inr ⟨w.heap.size, F.length, [], rfl, by rw [List.append_nil]; exact Blk.new _ _ _, by simp, h⟩⟩
set_option maxRecDepth 100000 in
set_option maxHeartbeats 1000000 in
theorem empty_any (w : World) :
    Calls Try.prog 39 #[] w fun e w' => e = .returned (.string ⟨emptyF.toArray⟩) ∧ Below w.heap.size w w' := by
  have hmk : Hid (∀ w' : World, (Instr.makeSlice 59 (.int .i64 232) (.int .i64 232)).run Try.prog w' = .ok (.slice (some ⟨w'.heap.size, 0, none⟩) 232 232) (w'.alloc (.cells (bvs (List.replicate 232 0)).toArray 5))) := Lib.hid (fun w' : World => make_bytes 232 (by omega) w')
  have B0 := Lib.hid (Buf.new w (List.replicate 232 0) (by unfold maxLen; rw [List.length_replicate]; omega))
  have O0 := Lib.hid ((Below.refl w.heap.size w).alloc (Nat.le_refl _) (.cells (bvs (List.replicate 232 0)).toArray 5))
  have hl : (List.replicate 232 (0 : UInt8)).length = 232 := List.length_replicate
  have e1 : emptyF = put2 (List.replicate 232 0) 2 232 := rfl
  rw [e1]
  clear e1
  generalize List.replicate 232 (0 : UInt8) = Z at *
  rw [hl] at B0
  have HL := Lib.hid hl
  clear hl
  have hm := hmk.out
  clear hmk
  go_enter Try.func39, Try.ntmps39
  go_wp2_with fail
  generalize w.alloc (.cells (bvs Z).toArray 5) = W at *
  clear hm
  refine (put_any B0.out 2 232 (by omega) (by rw [HL.out]; omega) (by rw [HL.out]; omega) (by omega) (by omega)).mono ?_
  rintro e w1 ⟨rfl, B1, o1⟩
  have KS := Lib.hid (B1.string (by rw [put2_length, HL.out]; omega))
  have O1 := Lib.hid (O0.out.trans (o1.below_of O0.out.size (by simp [ownB])))
  clear B1 o1
  go_wp2_with fail
  rw [KS.out]
  go_wp2_with fail
  go_ret
  exact ⟨rfl, O1.out⟩
end Go.Proofs.Yticehnnbjbliaab.Sl
