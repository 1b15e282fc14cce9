/- pages on a disk: Write. -/
import Derived.Test.YtmofbgcanehdoaaPg9
namespace Go.Proofs.Ytmofbgcanehdoaa.Pg
open Go.RowKit Pk Dk
attribute [local go_sem ↓] Go.wp_at_zero Go.wp_at_succ
theorem wcount_bd (d : D) (h : d.armed ≤ 9223372036854775807) : d.countF.1.calls = d.calls + 1 ∧ d.countF.1.armed ≤ 9223372036854775807 := by
  unfold D.countF
  split
  · exact ⟨rfl, h⟩
  · split
    · exact ⟨rfl, by show (0 : Int) ≤ _; omega⟩
    · exact ⟨rfl, by show d.armed - 1 ≤ _; omega⟩
theorem wkeep_same (d : D) (i : Nat) : (d.keepF i).calls = d.calls ∧ (d.keepF i).armed = d.armed := by unfold D.keepF; split <;> exact ⟨rfl, rfl⟩
theorem wwrite_bd (d : D) (n : Nat) (i : Int) (s : List UInt8) (h : d.armed ≤ 9223372036854775807) : (d.writeF n i s).1.calls ≤ d.calls + 1 ∧ (d.writeF n i s).1.armed ≤ 9223372036854775807 := by
  unfold D.writeF
  split
  · have h1 : (d.putF i.toNat s).calls = d.calls := (wkeep_same d i.toNat).1
    have h2 : (d.putF i.toNat s).armed = d.armed := (wkeep_same d i.toNat).2
    have := wcount_bd (d.putF i.toNat s) (by omega)
    omega
  · exact ⟨by show d.calls ≤ _; omega, h⟩
/-- so many of a page's sectors written -/
def w4 (d : D) (n k : Nat) (b : List UInt8) : Nat → D × Int
  | 0 => (d, 0)
  | i + 1 => if (w4 d n k b i).2 = 0 then (w4 d n k b i).1.writeF n ((k : Int) + i) ((b.drop (64 * i)).take 64) else w4 d n k b i
theorem w4_ok (d : D) (n k : Nat) (b : List UInt8) (i : Nat) (h : (w4 d n k b i).2 = 0) : w4 d n k b (i + 1) = (w4 d n k b i).1.writeF n ((k : Int) + i) ((b.drop (64 * i)).take 64) := by
  show (if _ then _ else _) = _
  rw [if_pos h]
theorem w4_stop (d : D) (n k : Nat) (b : List UInt8) (i j : Nat) (h : (w4 d n k b i).2 ≠ 0) (hj : i ≤ j) : w4 d n k b j = w4 d n k b i := by
  induction j with
  | zero => rw [show i = 0 by omega]
  | succ j ih =>
    by_cases e : i = j + 1
    · rw [e]
    · have := ih (by omega)
      show (if _ then _ else _) = _
      rw [this, if_neg h]
theorem w4_bd (d : D) (n k : Nat) (b : List UInt8) (h : d.armed ≤ 9223372036854775807) : ∀ i, (w4 d n k b i).1.calls ≤ d.calls + i ∧ (w4 d n k b i).1.armed ≤ 9223372036854775807
  | 0 => ⟨by simp [w4], h⟩
  | i + 1 => by
    obtain ⟨h1, h2⟩ := w4_bd d n k b h i
    unfold w4
    split
    · have := wwrite_bd (w4 d n k b i).1 n ((k : Int) + i) ((b.drop (64 * i)).take 64) h2
      omega
    · omega
theorem w4_okD {d : D} {n : Nat} (h : d.Ok n) (k : Nat) (b : List UInt8) : ∀ i, (w4 d n k b i).1.Ok n
  | 0 => h
  | i + 1 => by
    unfold w4
    split
    · exact (w4_okD h k b i).write _ _
    · exact w4_okD h k b i
/-- a page written to a disk -/
def pwriteF (d : D) (n : Nat) (id ep kd : Int) (s : List UInt8) : D × Int :=
  if (putF id ep kd s).2 ≠ 0 then (d, (putF id ep kd s).2)
  else if (manyF n : Int) ≤ id then (d, 3)
  else w4 d n (2 + 4 * id.toNat) (putF id ep kd s).1 4
theorem pwrite_bd (d : D) (n : Nat) (id ep kd : Int) (s : List UInt8) (h : d.armed ≤ 9223372036854775807) : (pwriteF d n id ep kd s).1.calls ≤ d.calls + 4 ∧ (pwriteF d n id ep kd s).1.armed ≤ 9223372036854775807 := by
  unfold pwriteF
  split
  · exact ⟨by show d.calls ≤ _; omega, h⟩
  · split
    · exact ⟨by show d.calls ≤ _; omega, h⟩
    · exact w4_bd d n _ _ h 4
theorem putF_len {id ep kd : Int} {s : List UInt8} (h : (putF id ep kd s).2 = 0) : (putF id ep kd s).1.length = 256 ∧ okP id ep kd = true := by
  unfold putF at h ⊢
  split at h
  · rename_i hok
    rw [if_pos hok]
    split at h
    · simp at h
    · rename_i hs
      rw [if_neg hs]
      have h1 : (padL (bodyL id ep kd s) 252).length = 252 := by
        have : (bodyL id ep kd s).length = 20 + s.length := by unfold bodyL; simp [packI_len, be8_len]; omega
        unfold padL; rw [List.length_append, List.length_replicate]; omega
      refine ⟨?_, hok⟩
      show (pageL id ep kd s).length = 256
      unfold pageL Crc.layF
      rw [List.length_append, h1]; simp [Crc.fourL]
  · simp at h
set_option maxRecDepth 100000 in
set_option maxHeartbeats 4000000 in
theorem pwrite_no {w : World} {L : Dk.Loc} {n : Nat} {d : D} (h : DiskAt w L n d) (id ep kd : Int) (s : ByteArray) (hid : id ≤ 9223372036854775807) (he : (putF id ep kd s.data.toList).2 ≠ 0 ∨ (manyF n : Int) ≤ id) :
    Calls Try.prog 16 #[dp L.b, pageV id ep kd s] w fun e w' => e = .returned (.int .i64 (pwriteF d n id ep kd s.data.toList).2) ∧ DiskAt w' L n (pwriteF d n id ep kd s.data.toList).1 ∧ Below w.heap.size w w' := by
  have O0 := Lib.hid (belowAlloc (Below.refl w.heap.size w) (.cells #[.int .i64 id, .int .i64 ep, .int .i64 kd, .string s] 23))
  have B0 := Lib.hid (Blk.new w 23 #[.int .i64 id, .int .i64 ep, .int .i64 kd, .string s])
  have K := Lib.hid (fun w => pput_any (w := w) id ep kd s hid)
  have KM := Lib.hid (fun w' (hb : Below w.heap.size w w') => many_any (h.below hb))
  have HD := Lib.hid h
  have c0 := B0.out.cell_some (i := 0) rfl
  have c1 := B0.out.cell_some (i := 1) rfl
  have c2 := B0.out.cell_some (i := 2) rfl
  have c3 := B0.out.cell_some (i := 3) rfl
  have hcase : ((putF id ep kd s.data.toList).2 ≠ 0 ∧ pwriteF d n id ep kd s.data.toList = (d, (putF id ep kd s.data.toList).2)) ∨ ((putF id ep kd s.data.toList).2 = 0 ∧ (manyF n : Int) ≤ id ∧ pwriteF d n id ep kd s.data.toList = (d, 3)) := by
    by_cases h1 : (putF id ep kd s.data.toList).2 = 0
    · have h2 := he.resolve_left (fun h => h h1)
      right
      refine ⟨h1, h2, ?_⟩
      unfold pwriteF; rw [if_neg (by simpa using h1), if_pos h2]
    · left
      refine ⟨h1, ?_⟩
      unfold pwriteF; rw [if_pos h1]
  generalize (putF id ep kd s.data.toList).2 = er at *
  generalize (⟨(putF id ep kd s.data.toList).1.toArray⟩ : ByteArray) = S at *
  generalize pwriteF d n id ep kd s.data.toList = R at *
  generalize manyF n = mn at *
  clear h he
  unfold pageV dp at *
  rcases hcase with ⟨h1, h2⟩ | ⟨h1, h3, h2⟩
  · subst h2
    have hb : (er != 0) = true := by rw [bne_iff_ne]; exact h1
    go_enter Try.func16, Try.ntmps16
    go_wp2_with fail
    refine (K.out _).mono ?_
    rintro e w1 ⟨rfl, hb1⟩
    have O1 := Lib.hid (bstep O0.out hb1)
    clear hb1
    go_wp2_with fail
    go_ret
    exact ⟨rfl, HD.out.below O1.out, O1.out⟩
  · subst h2
    subst h1
    go_enter Try.func16, Try.ntmps16
    go_wp2_with fail
    refine (K.out _).mono ?_
    rintro e w1 ⟨rfl, hb1⟩
    have O1 := Lib.hid (bstep O0.out hb1)
    have B1 := Lib.hid (B0.out.below hb1 B0.out.lt)
    clear hb1 c0 c1 c2 c3
    have c0 := B1.out.cell_some (i := 0) rfl
    go_wp2_with fail
    have KX := Lib.hid (fun m => KM.out (w1.drewN m) (Below_drewN O1.out m))
    go_quiet ((go_at_call 19; exact quietS (KX.out _)))
    go_wp2_with fail
    go_ret
    exact ⟨rfl, HD.out.below (Below_drewN O1.out _), Below_drewN O1.out _⟩
end Go.Proofs.Ytmofbgcanehdoaa.Pg
