/- pages on a disk: where a page lies. -/
import Derived.Test.YtbelcgjbhpjnpaaGreatGa
import Derived.Test.YtbelcgjbhpjnpaaGreatDa
set_option linter.all false
set_option linter.unusedVariables false
set_option linter.unusedSimpArgs false
set_option maxRecDepth 100000
namespace Go.Proofs.YtbelcgjbhpjnpaaGreat.Pg
open Go.RowKit Pk Dk
attribute [local go_sem ↓] Go.wp_at_zero Go.wp_at_succ
def manyF (n : Nat) : Nat := (n - 2) / 4
set_option maxHeartbeats 1000000 in
theorem many_any {w : World} {L : Dk.Loc} {n : Nat} {d : D} (h : DiskAt w L n d) :
  Calls Tryz.prog 151 #[dp L.b] w fun e w' => e = .returned (.int .i64 (manyF n : Nat)) ∧ w = w' := by
 have K := Lib.hid (sectors_any h)
 have hn := h.ok.small
 clear h
 unfold dp at *
 have e1 : IntKind.i64.wrap ((n : Int) - 2) = (n : Int) - 2 := IntWalk.i64_in _ (by omega)
 by_cases h2 : 2 ≤ n
 ·obtain ⟨m, rfl⟩ : ∃ m, n = m + 2 := ⟨n - 2, by omega⟩
  have e2 : IntKind.i64.wrap ((((m + 2 : Nat) : Int) - 2).tdiv 4) = ((manyF (m + 2) : Nat) : Int) := by
   have : (((m + 2 : Nat) : Int) - 2) = (m : Int) := by omega
   rw [this, Int.tdiv_eq_ediv_of_nonneg (by omega), IntWalk.i64_in _ (by omega)]
   unfold manyF; omega
  have h3 : ¬ ((m + 2 : Nat) : Int) - 2 < 0 := by omega
  have HM := Lib.hid (show ((manyF (m + 2) : Nat) : Int) = (m : Int) / 4 from by unfold manyF; omega)
  go_enter Tryz.func151, Tryz.ntmps151
  go_wp2_with fail
  refine K.out.mono ?_
  rintro e w1 ⟨rfl, rfl⟩
  go_wp2_with fail
  all_goals
   go_ret
   refine ⟨?_, rfl⟩
   rw [HM.out]
   first | (simp; done) | (simp; omega)
 ·have h3 : (n : Int) - 2 < 0 := by omega
  have HM := Lib.hid (show ((manyF n : Nat) : Int) = 0 from by unfold manyF; omega)
  go_enter Tryz.func151, Tryz.ntmps151
  go_wp2_with fail
  refine K.out.mono ?_
  rintro e w1 ⟨rfl, rfl⟩
  go_wp2_with fail
  go_ret
  refine ⟨?_, rfl⟩
  rw [HM.out]
  first | (simp; done) | (simp; omega)
set_option maxHeartbeats 1000000 in
theorem many_nil (w : World) : Calls Tryz.prog 151 #[.pointer none] w fun e w' => e = .returned (.int .i64 0) ∧ w = w' := by
 have K := Lib.hid (sectors_nil w)
 go_enter Tryz.func151, Tryz.ntmps151
 go_wp2_with fail
 refine K.out.mono ?_
 rintro e w1 ⟨rfl, rfl⟩
 go_wp2_with fail
 go_ret
 exact ⟨by first | rfl | simp, rfl⟩
/-- four sectors, from k on -/
def fourI (k : Nat) : List Value := [.int .i64 (k : Nat), .int .i64 ((k : Int) + 1), .int .i64 ((k : Int) + 2), .int .i64 ((k : Int) + 3)]
def fourTo (k i : Nat) : List Value := (fourI k).take i ++ List.replicate (4 - i) (.int .i64 0)
theorem results_cell_one {fn : Func} {p : Tmp} {ty : TypeId} (h : fn.results = #[.cell p ty]) (tmps : Array Value) (P : Program) (w : World) :
  (results fn tmps).run P w = ((asAddr (tmps.getD p undef)).run P w).andThen fun a w₁ => (loadVar ty a).run P w₁ := by
 simp only [results, h]
 simp [Sem.run_bind, Result.andThen]
theorem ret_four {fn : Func} {p : Tmp} {w : World} {g : Nat} {a b c d : Int} {tmps : Array Value} (h : fn.results = #[.cell p 176]) (hp : tmps.getD p undef = .pointer (some ⟨g, 0, none⟩)) (B : Blk w g 176 #[.int .i64 a, .int .i64 b, .int .i64 c, .int .i64 d]) :
  (results fn tmps).run Tryz.prog w = .ok (.agg #[.int .i64 a, .int .i64 b, .int .i64 c, .int .i64 d]) w := by
 have c0 := B.cell_some (i := 0) rfl
 have c1 := B.cell_some (i := 1) rfl
 have c2 := B.cell_some (i := 2) rfl
 have c3 := B.cell_some (i := 3) rfl
 rw [results_cell_one h, hp]
 clear h hp B
 go_simp
set_option maxRecDepth 100000 in
set_option maxHeartbeats 4000000 in
theorem psectors_any {w : World} (id : Nat) (h : id ≤ 1023) :
  Calls Tryz.prog 152 #[.int .i64 (id : Nat)] w fun e w' => e = .returned (.agg (fourI (2 + 4 * id)).toArray) ∧ Below w.heap.size w w' := by
 have e1 : IntKind.i64.wrap ((id : Int) * 4) = (id : Int) * 4 := IntWalk.i64_in _ (by omega)
 have e2 : IntKind.i64.wrap (2 + (id : Int) * 4) = 2 + (id : Int) * 4 := IntWalk.i64_in _ (by omega)
 have Z : ∀ i : Nat, i ≤ 3 → IntKind.i64.wrap (2 + (id : Int) * 4 + (i : Int)) = 2 + (id : Int) * 4 + (i : Int) := fun i hi => IntWalk.i64_in _ (by omega)
 have y0 := Z 0 (by omega)
 have y1 := Z 1 (by omega)
 have y2 := Z 2 (by omega)
 have y3 := Z 3 (by omega)
 clear Z
 have q0 : Value.int .i64 (2 + (id : Int) * 4) = .int .i64 ((2 + 4 * id : Nat) : Int) := by congr 1; omega
 have q1 : Value.int .i64 (2 + (id : Int) * 4 + 1) = .int .i64 (((2 + 4 * id : Nat) : Int) + 1) := by congr 1; omega
 have q2 : Value.int .i64 (2 + (id : Int) * 4 + 2) = .int .i64 (((2 + 4 * id : Nat) : Int) + 2) := by congr 1; omega
 have q3 : Value.int .i64 (2 + (id : Int) * 4 + 3) = .int .i64 (((2 + 4 * id : Nat) : Int) + 3) := by congr 1; omega
 have Q := Lib.hid (And.intro q0 (And.intro q1 (And.intro q2 q3)))
 clear q0 q1 q2 q3
 have B0 := Lib.hid ((Blk.new w 176 #[.int .i64 0, .int .i64 0, .int .i64 0, .int .i64 0]).alloc (.cells #[.int .i64 0, .int .i64 0, .int .i64 0, .int .i64 0] 176))
 have C0 := Blk.new (w.alloc (.cells #[.int .i64 0, .int .i64 0, .int .i64 0, .int .i64 0] 176)) 176 #[.int .i64 0, .int .i64 0, .int .i64 0, .int .i64 0]
 rw [show (w.alloc (.cells #[.int .i64 0, .int .i64 0, .int .i64 0, .int .i64 0] 176)).heap.size = w.heap.size + 1 from by simp] at C0
 have C0 := Lib.hid C0
 have O0 := Lib.hid (belowAlloc (belowAlloc (Below.refl w.heap.size w) (.cells #[.int .i64 0, .int .i64 0, .int .i64 0, .int .i64 0] 176)) (.cells #[.int .i64 0, .int .i64 0, .int .i64 0, .int .i64 0] 176))
 go_enter Tryz.func152, Tryz.ntmps152
 go_wp2_with fail
 go_loopw [5] (fun iv wr => ∃ i : Nat, i ≤ 4 ∧ iv = .int .i64 i ∧ Hid (Blk wr (w.heap.size + 1) 176 (fourTo (2 + 4 * id) i).toArray) ∧ Hid (Blk wr w.heap.size 176 #[.int .i64 0, .int .i64 0, .int .i64 0, .int .i64 0]) ∧ Hid (Below w.heap.size w wr)) (fun iv _ => 4 - (intOf iv).toNat)
 case atStart => exact ⟨0, by omega, rfl, C0, B0, O0⟩
 case round =>
  obtain ⟨i, hi, rfl, C, B, O⟩ := hrel
  have ii : i = 0 ∨ i = 1 ∨ i = 2 ∨ i = 3 ∨ i = 4 := by omega
  have z0 := C.out.frozen 0 (by rcases ii with rfl | rfl | rfl | rfl | rfl <;> simp [fourTo, fourI])
  have z1 := C.out.frozen 1 (by rcases ii with rfl | rfl | rfl | rfl | rfl <;> simp [fourTo, fourI])
  have z2 := C.out.frozen 2 (by rcases ii with rfl | rfl | rfl | rfl | rfl <;> simp [fourTo, fourI])
  have z3 := C.out.frozen 3 (by rcases ii with rfl | rfl | rfl | rfl | rfl <;> simp [fourTo, fourI])
  rcases ii with rfl | rfl | rfl | rfl | rfl
  ·have c0 := C.out.cell_some (i := 0) (v := .int .i64 0) rfl
   have C2 := Lib.hid (show Blk (wr.setCell ⟨w.heap.size + 1, 0, none⟩ (.int .i64 (2 + (id : Int) * 4))) (w.heap.size + 1) 176 (fourTo (2 + 4 * id) 1).toArray from by
    have h := C.out.set_ 0 (.int .i64 (2 + (id : Int) * 4))
    rw [Q.out.1] at h ⊢
    exact h)
   have B2 := Lib.hid (B.out.far (p := ⟨w.heap.size + 1, 0, none⟩) (by simp) (.int .i64 (2 + (id : Int) * 4)))
   have O2 := Lib.hid (O.out.setCell (p := ⟨w.heap.size + 1, 0, none⟩) (by simp) (.int .i64 (2 + (id : Int) * 4)))
   go_wp2_with fail
   go_roundw
   case rel => exact ⟨1, by omega, by first | rfl | simp, C2, B2, O2⟩
   case measure => first | decide | simp [intOf]
  ·have c0 := C.out.cell_some (i := 1) (v := .int .i64 0) rfl
   have C2 := Lib.hid (show Blk (wr.setCell ⟨w.heap.size + 1, 1, none⟩ (.int .i64 (2 + (id : Int) * 4 + 1))) (w.heap.size + 1) 176 (fourTo (2 + 4 * id) 2).toArray from by
    have h := C.out.set_ 1 (.int .i64 (2 + (id : Int) * 4 + 1))
    rw [Q.out.2.1] at h ⊢
    exact h)
   have B2 := Lib.hid (B.out.far (p := ⟨w.heap.size + 1, 1, none⟩) (by simp) (.int .i64 (2 + (id : Int) * 4 + 1)))
   have O2 := Lib.hid (O.out.setCell (p := ⟨w.heap.size + 1, 1, none⟩) (by simp) (.int .i64 (2 + (id : Int) * 4 + 1)))
   go_wp2_with fail
   go_roundw
   case rel => exact ⟨2, by omega, by first | rfl | simp, C2, B2, O2⟩
   case measure => first | decide | simp [intOf]
  ·have c0 := C.out.cell_some (i := 2) (v := .int .i64 0) rfl
   have C2 := Lib.hid (show Blk (wr.setCell ⟨w.heap.size + 1, 2, none⟩ (.int .i64 (2 + (id : Int) * 4 + 2))) (w.heap.size + 1) 176 (fourTo (2 + 4 * id) 3).toArray from by
    have h := C.out.set_ 2 (.int .i64 (2 + (id : Int) * 4 + 2))
    rw [Q.out.2.2.1] at h ⊢
    exact h)
   have B2 := Lib.hid (B.out.far (p := ⟨w.heap.size + 1, 2, none⟩) (by simp) (.int .i64 (2 + (id : Int) * 4 + 2)))
   have O2 := Lib.hid (O.out.setCell (p := ⟨w.heap.size + 1, 2, none⟩) (by simp) (.int .i64 (2 + (id : Int) * 4 + 2)))
   go_wp2_with fail
   go_roundw
   case rel => exact ⟨3, by omega, by first | rfl | simp, C2, B2, O2⟩
   case measure => first | decide | simp [intOf]
  ·have c0 := C.out.cell_some (i := 3) (v := .int .i64 0) rfl
   have C2 := Lib.hid (show Blk (wr.setCell ⟨w.heap.size + 1, 3, none⟩ (.int .i64 (2 + (id : Int) * 4 + 3))) (w.heap.size + 1) 176 (fourTo (2 + 4 * id) 4).toArray from by
    have h := C.out.set_ 3 (.int .i64 (2 + (id : Int) * 4 + 3))
    rw [Q.out.2.2.2] at h ⊢
    exact h)
   have B2 := Lib.hid (B.out.far (p := ⟨w.heap.size + 1, 3, none⟩) (by simp) (.int .i64 (2 + (id : Int) * 4 + 3)))
   have O2 := Lib.hid (O.out.setCell (p := ⟨w.heap.size + 1, 3, none⟩) (by simp) (.int .i64 (2 + (id : Int) * 4 + 3)))
   go_wp2_with fail
   go_roundw
   case rel => exact ⟨4, by omega, by first | rfl | simp, C2, B2, O2⟩
   case measure => first | decide | simp [intOf]
  ·have c0 := C.out.cell_some (i := 0) rfl
   have c1 := C.out.cell_some (i := 1) rfl
   have c2 := C.out.cell_some (i := 2) rfl
   have c3 := C.out.cell_some (i := 3) rfl
   have b0 := B.out.cell_some (i := 0) rfl
   have b1 := B.out.cell_some (i := 1) rfl
   have b2 := B.out.cell_some (i := 2) rfl
   have b3 := B.out.cell_some (i := 3) rfl
   have x0 := B.out.frozen 0 (by simp)
   have x1 := B.out.frozen 1 (by simp)
   have x2 := B.out.frozen 2 (by simp)
   have x3 := B.out.frozen 3 (by simp)
   have ZB := Lib.hid ((((B.out.set_ 0 (.int .i64 ((2 + 4 * id : Nat) : Int))).set_ 1 (.int .i64 (((2 + 4 * id : Nat) : Int) + 1))).set_ 2 (.int .i64 (((2 + 4 * id : Nat) : Int) + 2))).set_ 3 (.int .i64 (((2 + 4 * id : Nat) : Int) + 3)))
   have ZO := Lib.hid ((((O.out.setCell (p := ⟨w.heap.size, 0, none⟩) (Nat.le_refl _) (.int .i64 ((2 + 4 * id : Nat) : Int))).setCell (p := ⟨w.heap.size, 1, none⟩) (Nat.le_refl _) (.int .i64 (((2 + 4 * id : Nat) : Int) + 1))).setCell (p := ⟨w.heap.size, 2, none⟩) (Nat.le_refl _) (.int .i64 (((2 + 4 * id : Nat) : Int) + 2))).setCell (p := ⟨w.heap.size, 3, none⟩) (Nat.le_refl _) (.int .i64 (((2 + 4 * id : Nat) : Int) + 3)))
   simp only [fourTo, fourI, Nat.sub_self, List.replicate_zero, List.append_nil, List.take_of_length_le, List.length_cons, List.length_nil, Nat.le_refl, List.getElem_cons_zero, List.getElem_cons_succ, List.getElem_toArray] at c0 c1 c2 c3
   generalize hKK : ((2 + 4 * id : Nat) : Int) = K at *
   have HKK := Lib.hid hKK
   clear hKK
   go_wp2_with fail
   exact bodyPost_ret (ret_four rfl rfl ZB.out) rfl ⟨by unfold fourI; rw [HKK.out], ZO.out⟩
end Go.Proofs.YtbelcgjbhpjnpaaGreat.Pg

/- pages on a disk: Write. -/
namespace Go.Proofs.YtbelcgjbhpjnpaaGreat.Pg
open Go.RowKit Pk Dk
attribute [local go_sem ↓] Go.wp_at_zero Go.wp_at_succ
theorem wcount_bd (d : D) (h : d.armed ≤ 9223372036854775807) : d.countF.1.calls = d.calls + 1 ∧ d.countF.1.armed ≤ 9223372036854775807 := by
 unfold D.countF
 split
 ·exact ⟨rfl, h⟩
 ·split
  ·exact ⟨rfl, by show (0 : Int) ≤ _; omega⟩
  ·exact ⟨rfl, by show d.armed - 1 ≤ _; omega⟩
theorem wkeep_same (d : D) (i : Nat) : (d.keepF i).calls = d.calls ∧ (d.keepF i).armed = d.armed := by unfold D.keepF; split <;> exact ⟨rfl, rfl⟩
theorem wwrite_bd (d : D) (n : Nat) (i : Int) (s : List UInt8) (h : d.armed ≤ 9223372036854775807) : (d.writeF n i s).1.calls ≤ d.calls + 1 ∧ (d.writeF n i s).1.armed ≤ 9223372036854775807 := by
 unfold D.writeF
 split
 ·have h1 : (d.putF i.toNat s).calls = d.calls := (wkeep_same d i.toNat).1
  have h2 : (d.putF i.toNat s).armed = d.armed := (wkeep_same d i.toNat).2
  have := wcount_bd (d.putF i.toNat s) (by omega)
  omega
 ·exact ⟨by show d.calls ≤ _; omega, h⟩
/-- so many of a page's sectors written -/
def w4 (d : D) (n k : Nat) (b : List UInt8) : Nat → D × Int
 | 0 => (d, 0)
 | i + 1 => if (w4 d n k b i).2 = 0 then (w4 d n k b i).1.writeF n ((k : Int) + i) ((b.drop (64 * i)).take 64) else w4 d n k b i
theorem w4_ok (d : D) (n k : Nat) (b : List UInt8) (i : Nat) (h : (w4 d n k b i).2 = 0) : w4 d n k b (i + 1) = (w4 d n k b i).1.writeF n ((k : Int) + i) ((b.drop (64 * i)).take 64) := by
 show (if _ then _ else _) = _
 rw [if_pos h]
theorem w4_stop (d : D) (n k : Nat) (b : List UInt8) (i j : Nat) (h : (w4 d n k b i).2 ≠ 0) (hj : i ≤ j) : w4 d n k b j = w4 d n k b i := by
 induction j with
 | zero => rw [show i = 0 by omega]
 | succ j ih =>
  by_cases e : i = j + 1
  ·rw [e]
  ·have := ih (by omega)
   show (if _ then _ else _) = _
   rw [this, if_neg h]
theorem w4_bd (d : D) (n k : Nat) (b : List UInt8) (h : d.armed ≤ 9223372036854775807) : ∀ i, (w4 d n k b i).1.calls ≤ d.calls + i ∧ (w4 d n k b i).1.armed ≤ 9223372036854775807
 | 0 => ⟨by simp [w4], h⟩
 | i + 1 => by
  obtain ⟨h1, h2⟩ := w4_bd d n k b h i
  unfold w4
  split
  ·have := wwrite_bd (w4 d n k b i).1 n ((k : Int) + i) ((b.drop (64 * i)).take 64) h2
   omega
  ·omega
theorem w4_okD {d : D} {n : Nat} (h : d.Ok n) (k : Nat) (b : List UInt8) : ∀ i, (w4 d n k b i).1.Ok n
 | 0 => h
 | i + 1 => by
  unfold w4
  split
  ·exact (w4_okD h k b i).write _ _
  ·exact w4_okD h k b i
/-- a page written to a disk -/
def pwriteF (d : D) (n : Nat) (id ep kd : Int) (s : List UInt8) : D × Int :=
 if (putF id ep kd s).2 ≠ 0 then (d, (putF id ep kd s).2)
 else if (manyF n : Int) ≤ id then (d, 3)
 else w4 d n (2 + 4 * id.toNat) (putF id ep kd s).1 4
theorem pwrite_bd (d : D) (n : Nat) (id ep kd : Int) (s : List UInt8) (h : d.armed ≤ 9223372036854775807) : (pwriteF d n id ep kd s).1.calls ≤ d.calls + 4 ∧ (pwriteF d n id ep kd s).1.armed ≤ 9223372036854775807 := by
 unfold pwriteF
 split
 ·exact ⟨by show d.calls ≤ _; omega, h⟩
 ·split
  ·exact ⟨by show d.calls ≤ _; omega, h⟩
  ·exact w4_bd d n _ _ h 4
theorem putF_len {id ep kd : Int} {s : List UInt8} (h : (putF id ep kd s).2 = 0) : (putF id ep kd s).1.length = 256 ∧ okP id ep kd = true := by
 unfold putF at h ⊢
 split at h
 ·rename_i hok
  rw [if_pos hok]
  split at h
  ·simp at h
  ·rename_i hs
   rw [if_neg hs]
   have h1 : (padL (bodyL id ep kd s) 252).length = 252 := by
    have : (bodyL id ep kd s).length = 20 + s.length := by unfold bodyL; simp [packI_len, be8_len]; omega
    unfold padL; rw [List.length_append, List.length_replicate]; omega
   refine ⟨?_, hok⟩
   show (pageL id ep kd s).length = 256
   unfold pageL Crc.layF
   rw [List.length_append, h1]; simp [Crc.fourL]
 ·simp at h
set_option maxRecDepth 100000 in
set_option maxHeartbeats 4000000 in
theorem pwrite_no {w : World} {L : Dk.Loc} {n : Nat} {d : D} (h : DiskAt w L n d) (id ep kd : Int) (s : ByteArray) (hid : id ≤ 9223372036854775807) (he : (putF id ep kd s.data.toList).2 ≠ 0 ∨ (manyF n : Int) ≤ id) :
  Calls Tryz.prog 162 #[dp L.b, pageV id ep kd s] w fun e w' => e = .returned (.int .i64 (pwriteF d n id ep kd s.data.toList).2) ∧ DiskAt w' L n (pwriteF d n id ep kd s.data.toList).1 ∧ Below w.heap.size w w' := by
 have O0 := Lib.hid (belowAlloc (Below.refl w.heap.size w) (.cells #[.int .i64 id, .int .i64 ep, .int .i64 kd, .string s] 55))
 have B0 := Lib.hid (Blk.new w 55 #[.int .i64 id, .int .i64 ep, .int .i64 kd, .string s])
 have K := Lib.hid (fun w => pput_any (w := w) id ep kd s hid)
 have KM := Lib.hid (fun w' (hb : Below w.heap.size w w') => many_any (h.below hb))
 have HD := Lib.hid h
 have c0 := B0.out.cell_some (i := 0) rfl
 have c1 := B0.out.cell_some (i := 1) rfl
 have c2 := B0.out.cell_some (i := 2) rfl
 have c3 := B0.out.cell_some (i := 3) rfl
 have hcase : ((putF id ep kd s.data.toList).2 ≠ 0 ∧ pwriteF d n id ep kd s.data.toList = (d, (putF id ep kd s.data.toList).2)) ∨ ((putF id ep kd s.data.toList).2 = 0 ∧ (manyF n : Int) ≤ id ∧ pwriteF d n id ep kd s.data.toList = (d, 3)) := by
  by_cases h1 : (putF id ep kd s.data.toList).2 = 0
  ·have h2 := he.resolve_left (fun h => h h1)
   right
   refine ⟨h1, h2, ?_⟩
   unfold pwriteF; rw [if_neg (by simpa using h1), if_pos h2]
  ·left
   refine ⟨h1, ?_⟩
   unfold pwriteF; rw [if_pos h1]
 generalize (putF id ep kd s.data.toList).2 = er at *
 generalize (⟨(putF id ep kd s.data.toList).1.toArray⟩ : ByteArray) = S at *
 generalize pwriteF d n id ep kd s.data.toList = R at *
 generalize manyF n = mn at *
 clear h he
 unfold pageV dp at *
 rcases hcase with ⟨h1, h2⟩ | ⟨h1, h3, h2⟩
 ·subst h2
  have hb : (er != 0) = true := by rw [bne_iff_ne]; exact h1
  go_enter Tryz.func162, Tryz.ntmps162
  go_wp2_with fail
  refine (K.out _).mono ?_
  rintro e w1 ⟨rfl, hb1⟩
  have O1 := Lib.hid (bstep O0.out hb1)
  clear hb1
  go_wp2_with fail
  go_ret
  exact ⟨rfl, HD.out.below O1.out, O1.out⟩
 ·subst h2
  subst h1
  go_enter Tryz.func162, Tryz.ntmps162
  go_wp2_with fail
  refine (K.out _).mono ?_
  rintro e w1 ⟨rfl, hb1⟩
  have O1 := Lib.hid (bstep O0.out hb1)
  have B1 := Lib.hid (B0.out.below hb1 B0.out.lt)
  clear hb1 c0 c1 c2 c3
  have c0 := B1.out.cell_some (i := 0) rfl
  go_wp2_with fail
  have KX := Lib.hid (fun m => KM.out (w1.drewN m) (Below_drewN O1.out m))
  go_quiet ((go_at_call 151; exact quietS (KX.out _)))
  go_wp2_with fail
  go_ret
  exact ⟨rfl, HD.out.below (Below_drewN O1.out _), Below_drewN O1.out _⟩
end Go.Proofs.YtbelcgjbhpjnpaaGreat.Pg

/- pages on a disk: Write, whole. -/
namespace Go.Proofs.YtbelcgjbhpjnpaaGreat.Pg
open Go.RowKit Pk Dk
attribute [local go_sem ↓] Go.wp_at_zero Go.wp_at_succ
theorem idx4 (a0 a1 a2 a3 : Int) (w : World) (k : Nat) (x : Value) (hx : #[Value.int .i64 a0, .int .i64 a1, .int .i64 a2, .int .i64 a3][k]? = some x) :
  (Instr.index 176 (.agg #[.int .i64 a0, .int .i64 a1, .int .i64 a2, .int .i64 a3]) (.int .i64 (k : Int))).run Tryz.prog w = .ok x w := by
 have hu : Tryz.prog.underlying 176 = some (.array 4 3) := by kernel_rfl
 have hm : (Tryz.prog.info? 3).map (·.size) = some 1 := by kernel_rfl
 have hp : Tryz.prog.plainKey 3 = true := by kernel_rfl
 have hk : k < 4 := by
  rcases Nat.lt_or_ge k 4 with h | h
  ·exact h
  ·rw [Array.getElem?_eq_none (by simpa using h)] at hx; cases hx
 cases hq : Tryz.prog.info? 3 with
 | none => simp [hq] at hm
 | some i =>
  simp only [hq, Option.map_some, Option.some.injEq] at hm
  have := run_part_plain (P := Tryz.prog) w hp hx
  simp [Instr.index, asIntOf, run_underlying hu, hk, sizeOf, typeInfo, hq, hm]
  exact this
set_option maxRecDepth 100000 in
set_option maxHeartbeats 8000000 in
theorem pwrite_yes {w : World} {L : Dk.Loc} {n : Nat} {d : D} (h : DiskAt w L n d) (id : Nat) (ep kd : Int) (s : ByteArray) (hp : (putF id ep kd s.data.toList).2 = 0) (hm : id < manyF n) (hc : d.calls ≤ 3999999999999999990) (hr : d.armed ≤ 9223372036854775807) :
  Calls Tryz.prog 162 #[dp L.b, pageV id ep kd s] w fun e w' => e = .returned (.int .i64 (w4 d n (2 + 4 * id) (putF id ep kd s.data.toList).1 4).2) ∧ DiskAt w' L n (w4 d n (2 + 4 * id) (putF id ep kd s.data.toList).1 4).1 ∧ Only L.fp w w' := by
 have hn := h.ok.small
 have hmn : manyF n ≤ 1023 := by unfold manyF; omega
 have O0 := Lib.hid (belowAlloc (Below.refl w.heap.size w) (.cells #[.int .i64 (id : Nat), .int .i64 ep, .int .i64 kd, .string s] 55))
 have B0 := Lib.hid (Blk.new w 55 #[.int .i64 (id : Nat), .int .i64 ep, .int .i64 kd, .string s])
 have K := fun w => pput_any (w := w) id ep kd s (by omega)
 have hlen := (putF_len hp).1
 rw [hp] at K
 obtain ⟨T, hT⟩ : ∃ T : ByteArray, (⟨(putF id ep kd s.data.toList).1.toArray⟩ : ByteArray) = T := ⟨_, rfl⟩
 rw [hT] at K
 have hTl : T.data.toList = (putF id ep kd s.data.toList).1 := by rw [← hT]
 have hTs : T.size = 256 := by rw [← hT, str_size, hlen]
 rw [← hTl]
 have HX := Lib.hid (show ∀ i : Nat, (T.extract (64 * i) (64 * (i + 1))).data.toList = (T.data.toList.drop (64 * i)).take 64 from fun i => by rw [exl, show 64 * (i + 1) - 64 * i = 64 by omega])
 have K := Lib.hid K
 have KM := Lib.hid (fun w' (hb : Below w.heap.size w w') => many_any (h.below hb))
 have KS := Lib.hid (fun w => psectors_any (w := w) id (by omega))
 have HB := Lib.hid (w4_bd d n (2 + 4 * id) T.data.toList hr)
 have H4 := Lib.hid (w4_ok d n (2 + 4 * id) T.data.toList)
 have HS := Lib.hid (w4_stop d n (2 + 4 * id) T.data.toList)
 have HC := Lib.hid hc
 have HD := Lib.hid h
 have hmI : ¬ ((manyF n : Nat) : Int) ≤ (id : Int) := by omega
 have c0 := B0.out.cell_some (i := 0) rfl
 have c1 := B0.out.cell_some (i := 1) rfl
 have c2 := B0.out.cell_some (i := 2) rfl
 have c3 := B0.out.cell_some (i := 3) rfl
 generalize manyF n = mn at *
 clear h hp hT hTl hlen hc hr
 unfold pageV dp fourI at *
 generalize hk : 2 + 4 * id = k at *
 clear hk
 go_enter Tryz.func162, Tryz.ntmps162
 go_wp2_with fail
 refine (K.out _).mono ?_
 rintro e w1 ⟨rfl, hb1⟩
 have O1 := Lib.hid (bstep O0.out hb1)
 have B1 := Lib.hid (B0.out.below hb1 B0.out.lt)
 clear hb1 c0 c1 c2 c3 K
 have c0 := B1.out.cell_some (i := 0) rfl
 have KX := Lib.hid (fun m => KM.out (w1.drewN m) (Below_drewN O1.out m))
 go_wp2_with fail
 go_quiet ((go_at_call 151; exact quietS (KX.out _)))
 have O2 := Lib.hid (Below_drewN O1.out nq)
 have B2 := Lib.hid (B1.out.drewN nq)
 generalize hw2 : w1.drewN nq = w2 at *
 clear c0 O1 B1 hw2 KX KM
 have c0 := B2.out.cell_some (i := 0) rfl
 go_wp2_with fail
 refine (KS.out _).mono ?_
 rintro e w3 ⟨rfl, hb3⟩
 have O3 := Lib.hid (bstep O2.out hb3)
 have D3 := Lib.hid (HD.out.below O3.out)
 clear hb3 c0 KS O2 B2
 go_wp2_with fail
 go_loopw [30] (fun iv wr => ∃ i : Nat, i ≤ 4 ∧ iv = .int .i64 i ∧ Hid (DiskAt wr L n (w4 d n k T.data.toList i).1) ∧ Hid ((w4 d n k T.data.toList i).2 = 0) ∧ Hid (Only L.fp w wr)) (fun iv _ => 4 - (intOf iv).toNat)
 case atStart => exact ⟨0, by omega, rfl, D3, Lib.hid rfl, Lib.hid (.of_below O3.out)⟩
 case round =>
  obtain ⟨i, hi, rfl, DD, EZ, O⟩ := hrel
  have ii : i = 0 ∨ i = 1 ∨ i = 2 ∨ i = 3 ∨ i = 4 := by omega
  rcases ii with rfl | rfl | rfl | rfl | rfl
  ·have bd := HB.out 0
   have KW := write_any DD.out ((k : Int)) (T.extract 0 64) (by have := HC.out; omega) (by omega)
   have hx := HX.out 0
   have h4 := H4.out 0 EZ.out
   rw [show (T.extract 0 64).data.toList = (T.data.toList.drop (64 * 0)).take 64 from hx, show ((k : Int)) = (k : Int) + ((0 : Nat) : Int) from by omega, ← h4, show (k : Int) + ((0 : Nat) : Int) = (k : Int) from by omega] at KW
   have KW := Lib.hid KW
   clear hx h4 bd
   have IX := Lib.hid (show (Instr.index 176 (.agg #[.int .i64 (k : Int), .int .i64 ((k : Int) + 1), .int .i64 ((k : Int) + 2), .int .i64 ((k : Int) + 3)]) (.int .i64 0)).run Tryz.prog wr = .ok (.int .i64 ((k : Int))) wr from idx4 (k : Int) ((k : Int) + 1) ((k : Int) + 2) ((k : Int) + 3) wr 0 _ rfl)
   go_wp2_with fail
   rw [IX.out]
   go_wp2_with fail
   refine KW.out.mono ?_
   rintro e wz ⟨rfl, dd, oz⟩
   have DZ := Lib.hid dd
   have OZ := Lib.hid (O.out.trans oz)
   clear dd oz KW
   by_cases hz : (w4 d n k T.data.toList 1).2 = 0
   ·have HZ := Lib.hid hz
    have hq : ((w4 d n k T.data.toList 1).2 != 0) = false := by rw [hz]; rfl
    clear hz
    go_wp2_with fail
    go_roundw
    case rel => exact ⟨1, by omega, by first | rfl | simp, DZ, HZ, OZ⟩
    case measure => first | decide | simp [intOf]
   ·have hs := HS.out 1 4 hz (by omega)
    have HSS := Lib.hid hs
    have hq : ((w4 d n k T.data.toList 1).2 != 0) = true := by rw [bne_iff_ne]; exact hz
    clear hz hs
    go_wp2_with fail
    go_ret
    exact ⟨by first | rfl | (rw [HSS.out]; rfl), by first | exact DZ.out | (rw [HSS.out]; exact DZ.out), OZ.out⟩
  ·have bd := HB.out 1
   have KW := write_any DD.out ((k : Int) + 1) (T.extract 64 128) (by have := HC.out; omega) (by omega)
   have hx := HX.out 1
   have h4 := H4.out 1 EZ.out
   rw [show (T.extract 64 128).data.toList = (T.data.toList.drop (64 * 1)).take 64 from hx, show ((k : Int) + 1) = (k : Int) + ((1 : Nat) : Int) from by omega, ← h4, show (k : Int) + ((1 : Nat) : Int) = (k : Int) + 1 from by omega] at KW
   have KW := Lib.hid KW
   clear hx h4 bd
   have IX := Lib.hid (show (Instr.index 176 (.agg #[.int .i64 (k : Int), .int .i64 ((k : Int) + 1), .int .i64 ((k : Int) + 2), .int .i64 ((k : Int) + 3)]) (.int .i64 1)).run Tryz.prog wr = .ok (.int .i64 ((k : Int) + 1)) wr from idx4 (k : Int) ((k : Int) + 1) ((k : Int) + 2) ((k : Int) + 3) wr 1 _ rfl)
   go_wp2_with fail
   rw [IX.out]
   go_wp2_with fail
   refine KW.out.mono ?_
   rintro e wz ⟨rfl, dd, oz⟩
   have DZ := Lib.hid dd
   have OZ := Lib.hid (O.out.trans oz)
   clear dd oz KW
   by_cases hz : (w4 d n k T.data.toList 2).2 = 0
   ·have HZ := Lib.hid hz
    have hq : ((w4 d n k T.data.toList 2).2 != 0) = false := by rw [hz]; rfl
    clear hz
    go_wp2_with fail
    go_roundw
    case rel => exact ⟨2, by omega, by first | rfl | simp, DZ, HZ, OZ⟩
    case measure => first | decide | simp [intOf]
   ·have hs := HS.out 2 4 hz (by omega)
    have HSS := Lib.hid hs
    have hq : ((w4 d n k T.data.toList 2).2 != 0) = true := by rw [bne_iff_ne]; exact hz
    clear hz hs
    go_wp2_with fail
    go_ret
    exact ⟨by first | rfl | (rw [HSS.out]; rfl), by first | exact DZ.out | (rw [HSS.out]; exact DZ.out), OZ.out⟩
  ·have bd := HB.out 2
   have KW := write_any DD.out ((k : Int) + 2) (T.extract 128 192) (by have := HC.out; omega) (by omega)
   have hx := HX.out 2
   have h4 := H4.out 2 EZ.out
   rw [show (T.extract 128 192).data.toList = (T.data.toList.drop (64 * 2)).take 64 from hx, show ((k : Int) + 2) = (k : Int) + ((2 : Nat) : Int) from by omega, ← h4, show (k : Int) + ((2 : Nat) : Int) = (k : Int) + 2 from by omega] at KW
   have KW := Lib.hid KW
   clear hx h4 bd
   have IX := Lib.hid (show (Instr.index 176 (.agg #[.int .i64 (k : Int), .int .i64 ((k : Int) + 1), .int .i64 ((k : Int) + 2), .int .i64 ((k : Int) + 3)]) (.int .i64 2)).run Tryz.prog wr = .ok (.int .i64 ((k : Int) + 2)) wr from idx4 (k : Int) ((k : Int) + 1) ((k : Int) + 2) ((k : Int) + 3) wr 2 _ rfl)
   go_wp2_with fail
   rw [IX.out]
   go_wp2_with fail
   refine KW.out.mono ?_
   rintro e wz ⟨rfl, dd, oz⟩
   have DZ := Lib.hid dd
   have OZ := Lib.hid (O.out.trans oz)
   clear dd oz KW
   by_cases hz : (w4 d n k T.data.toList 3).2 = 0
   ·have HZ := Lib.hid hz
    have hq : ((w4 d n k T.data.toList 3).2 != 0) = false := by rw [hz]; rfl
    clear hz
    go_wp2_with fail
    go_roundw
    case rel => exact ⟨3, by omega, by first | rfl | simp, DZ, HZ, OZ⟩
    case measure => first | decide | simp [intOf]
   ·have hs := HS.out 3 4 hz (by omega)
    have HSS := Lib.hid hs
    have hq : ((w4 d n k T.data.toList 3).2 != 0) = true := by rw [bne_iff_ne]; exact hz
    clear hz hs
    go_wp2_with fail
    go_ret
    exact ⟨by first | rfl | (rw [HSS.out]; rfl), by first | exact DZ.out | (rw [HSS.out]; exact DZ.out), OZ.out⟩
  ·have bd := HB.out 3
   have KW := write_any DD.out ((k : Int) + 3) (T.extract 192 256) (by have := HC.out; omega) (by omega)
   have hx := HX.out 3
   have h4 := H4.out 3 EZ.out
   rw [show (T.extract 192 256).data.toList = (T.data.toList.drop (64 * 3)).take 64 from hx, show ((k : Int) + 3) = (k : Int) + ((3 : Nat) : Int) from by omega, ← h4, show (k : Int) + ((3 : Nat) : Int) = (k : Int) + 3 from by omega] at KW
   have KW := Lib.hid KW
   clear hx h4 bd
   have IX := Lib.hid (show (Instr.index 176 (.agg #[.int .i64 (k : Int), .int .i64 ((k : Int) + 1), .int .i64 ((k : Int) + 2), .int .i64 ((k : Int) + 3)]) (.int .i64 3)).run Tryz.prog wr = .ok (.int .i64 ((k : Int) + 3)) wr from idx4 (k : Int) ((k : Int) + 1) ((k : Int) + 2) ((k : Int) + 3) wr 3 _ rfl)
   go_wp2_with fail
   rw [IX.out]
   go_wp2_with fail
   refine KW.out.mono ?_
   rintro e wz ⟨rfl, dd, oz⟩
   have DZ := Lib.hid dd
   have OZ := Lib.hid (O.out.trans oz)
   clear dd oz KW
   by_cases hz : (w4 d n k T.data.toList 4).2 = 0
   ·have HZ := Lib.hid hz
    have hq : ((w4 d n k T.data.toList 4).2 != 0) = false := by rw [hz]; rfl
    clear hz
    go_wp2_with fail
    go_roundw
    case rel => exact ⟨4, by omega, by first | rfl | simp, DZ, HZ, OZ⟩
    case measure => first | decide | simp [intOf]
   ·have hs := HS.out 4 4 hz (by omega)
    have HSS := Lib.hid hs
    have hq : ((w4 d n k T.data.toList 4).2 != 0) = true := by rw [bne_iff_ne]; exact hz
    clear hz hs
    go_wp2_with fail
    go_ret
    exact ⟨by first | rfl | (rw [HSS.out]; rfl), by first | exact DZ.out | (rw [HSS.out]; exact DZ.out), OZ.out⟩
  ·go_wp2_with fail
   go_ret
   exact ⟨by rw [EZ.out]; rfl, DD.out, O.out⟩
theorem pwrite_any {w : World} {L : Dk.Loc} {n : Nat} {d : D} (h : DiskAt w L n d) (id ep kd : Int) (s : ByteArray) (hid : id ≤ 9223372036854775807) (hc : d.calls ≤ 3999999999999999990) (hr : d.armed ≤ 9223372036854775807) :
  Calls Tryz.prog 162 #[dp L.b, pageV id ep kd s] w fun e w' => e = .returned (.int .i64 (pwriteF d n id ep kd s.data.toList).2) ∧ DiskAt w' L n (pwriteF d n id ep kd s.data.toList).1 ∧ Only L.fp w w' := by
 by_cases hp : (putF id ep kd s.data.toList).2 = 0
 ·by_cases hm : (manyF n : Int) ≤ id
  ·exact (pwrite_no h id ep kd s hid (.inr hm)).mono fun e w' hx => ⟨hx.1, hx.2.1, .of_below hx.2.2⟩
  ·have hok := (okP_iff id ep kd).1 (putF_len hp).2
   obtain ⟨a, rfl⟩ := Int.eq_ofNat_of_zero_le hok.1
   have e1 : pwriteF d n a ep kd s.data.toList = w4 d n (2 + 4 * a) (putF a ep kd s.data.toList).1 4 := by
    unfold pwriteF
    rw [if_neg (by simpa using hp), if_neg hm]; rfl
   rw [e1]
   exact pwrite_yes h a ep kd s hp (by omega) hc hr
 ·exact (pwrite_no h id ep kd s hid (.inl hp)).mono fun e w' hx => ⟨hx.1, hx.2.1, .of_below hx.2.2⟩
end Go.Proofs.YtbelcgjbhpjnpaaGreat.Pg

/- pages on a disk: Read. -/
namespace Go.Proofs.YtbelcgjbhpjnpaaGreat.Pg
open Go.RowKit Pk Dk
attribute [local go_sem ↓] Go.wp_at_zero Go.wp_at_succ exec_appS
/-- a page read of a disk -/
def preadF (d : D) (n : Nat) (id : Int) : PG × Int :=
 if id < 0 ∨ (manyF n : Int) ≤ id then (.zero, 3)
 else if d.down = true then (.zero, 13)
 else if (gotF ((d.now.drop (64 * (2 + 4 * id.toNat))).take 256)).2 ≠ 0 then (.zero, (gotF ((d.now.drop (64 * (2 + 4 * id.toNat))).take 256)).2)
 else if (gotF ((d.now.drop (64 * (2 + 4 * id.toNat))).take 256)).1.id ≠ id then (.zero, 14)
 else ((gotF ((d.now.drop (64 * (2 + 4 * id.toNat))).take 256)).1, 0)
theorem sec_next (F : List UInt8) (k i : Nat) : (F.drop (64 * k)).take (64 * (i + 1)) = (F.drop (64 * k)).take (64 * i) ++ sec F (k + i) := by
 unfold sec
 rw [show 64 * (i + 1) = 64 * i + 64 by omega, List.take_add, List.drop_drop, show 64 * k + 64 * i = 64 * (k + i) by omega]
theorem atF_val (d : D) (n : Nat) (k : Nat) (h : k < n) : d.atF n k = if d.down = true then 13 else 0 := by
 unfold D.atF
 rw [if_pos (show 0 ≤ (k : Int) ∧ (k : Int) < n by omega)]
theorem readF_down (d : D) (n : Nat) (k : Nat) (h : k < n) (hd : d.down = true) : d.readF n k = ([], 13) := by
 unfold D.readF
 rw [atF_val d n k h, if_pos hd]; rfl
theorem readF_up (d : D) (n : Nat) (k : Nat) (h : k < n) (hd : d.down = false) : d.readF n k = (sec d.now k, 0) := by
 unfold D.readF
 rw [atF_val d n k h]
 simp [hd]
set_option maxRecDepth 100000 in
set_option maxHeartbeats 2000000 in
theorem pread_nil {w : World} (id : Int) :
  Calls Tryz.prog 90 #[.pointer none, .int .i64 id] w fun e w' => e = .returned (.tuple #[PG.zero.val, .int .i64 1]) ∧ Below w.heap.size w w' := by
 have B0 := Lib.hid (Blk.new w 55 zeroC)
 have O0 := Lib.hid (belowAlloc (Below.refl w.heap.size w) (.cells zeroC 55))
 go_enter Tryz.func90, Tryz.ntmps90
 go_wp2_with fail
 exact bodyPost_ret (results_cell_p rfl rfl B0.out) rfl ⟨rfl, O0.out⟩
set_option maxRecDepth 100000 in
set_option maxHeartbeats 2000000 in
theorem pread_neg {w : World} (b : Nat) (id : Int) (h : id < 0) :
  Calls Tryz.prog 90 #[dp b, .int .i64 id] w fun e w' => e = .returned (.tuple #[PG.zero.val, .int .i64 3]) ∧ Below w.heap.size w w' := by
 have B0 := Lib.hid (Blk.new w 55 zeroC)
 have O0 := Lib.hid (belowAlloc (Below.refl w.heap.size w) (.cells zeroC 55))
 unfold dp
 go_enter Tryz.func90, Tryz.ntmps90
 go_wp2_with fail
 exact bodyPost_ret (results_cell_p rfl rfl B0.out) rfl ⟨rfl, O0.out⟩
set_option maxRecDepth 100000 in
set_option maxHeartbeats 2000000 in
theorem pread_far {w : World} {L : Dk.Loc} {n : Nat} {d : D} (hd : DiskAt w L n d) (id : Int) (h0 : 0 ≤ id) (h : (manyF n : Int) ≤ id) :
  Calls Tryz.prog 90 #[dp L.b, .int .i64 id] w fun e w' => e = .returned (.tuple #[PG.zero.val, .int .i64 3]) ∧ Below w.heap.size w w' := by
 have B0 := Lib.hid (Blk.new w 55 zeroC)
 have O0 := belowAlloc (Below.refl w.heap.size w) (.cells zeroC 55)
 have K := Lib.hid (many_any (hd.below O0))
 have O0 := Lib.hid O0
 have h1 : ¬ id < 0 := by omega
 clear hd
 have z0 := B0.out.frozen 0 (by simp)
 have z1 := B0.out.frozen 1 (by simp)
 have z2 := B0.out.frozen 2 (by simp)
 have z3 := B0.out.frozen 3 (by simp)
 have c0 := B0.out.cell_some (i := 0) rfl
 have c1 := B0.out.cell_some (i := 1) rfl
 have c2 := B0.out.cell_some (i := 2) rfl
 have c3 := B0.out.cell_some (i := 3) rfl
 have ZB := Lib.hid (storeP B0.out rfl 0 0 0 ⟨#[]⟩)
 have ZO := Lib.hid (storeP_below O0.out (Nat.le_refl _) 0 0 0 ⟨#[]⟩)
 unfold dp at *
 go_enter Tryz.func90, Tryz.ntmps90
 go_wp2_with fail
 refine K.out.mono ?_
 rintro e w1 ⟨rfl, rfl⟩
 go_wp2_with fail
 exact bodyPost_ret (results_cell_p rfl rfl B0.out) rfl ⟨rfl, O0.out⟩
set_option maxRecDepth 100000 in
set_option maxHeartbeats 4000000 in
theorem pread_down {w : World} {L : Dk.Loc} {n : Nat} {d : D} (hd : DiskAt w L n d) (id : Nat) (h : id < manyF n) (hdn : d.down = true) :
  Calls Tryz.prog 90 #[dp L.b, .int .i64 (id : Nat)] w fun e w' => e = .returned (.tuple #[PG.zero.val, .int .i64 13]) ∧ Below w.heap.size w w' := by
 have hn := hd.ok.small
 have hmn : manyF n ≤ 1023 := by unfold manyF; omega
 have hkn : 2 + 4 * id < n := by unfold manyF at h; omega
 have B0 := Lib.hid (Blk.new w 55 zeroC)
 have O0 := belowAlloc (Below.refl w.heap.size w) (.cells zeroC 55)
 have K := Lib.hid (many_any (hd.below O0))
 have O0 := Lib.hid O0
 have KS := Lib.hid (fun w => psectors_any (w := w) id (by omega))
 have KR := fun w' (hb : Below w.heap.size w w') => read_any (hd.below hb) ((2 + 4 * id : Nat) : Int)
 rw [readF_down d n _ hkn hdn] at KR
 have KR := Lib.hid KR
 have h1 : ¬ ((id : Nat) : Int) < 0 := by omega
 have h2 : ¬ ((manyF n : Nat) : Int) ≤ (id : Int) := by omega
 clear hd
 generalize manyF n = mn at *
 generalize 2 + 4 * id = k at *
 unfold dp fourI at *
 go_enter Tryz.func90, Tryz.ntmps90
 go_wp2_with fail
 refine K.out.mono ?_
 rintro e w1 ⟨rfl, rfl⟩
 go_wp2_with fail
 refine (KS.out _).mono ?_
 rintro e w2 ⟨rfl, hb2⟩
 have O2 := Lib.hid (bstep O0.out hb2)
 have B2 := Lib.hid (B0.out.below hb2 B0.out.lt)
 clear hb2
 have z0 := B2.out.frozen 0 (by simp)
 have z1 := B2.out.frozen 1 (by simp)
 have z2 := B2.out.frozen 2 (by simp)
 have z3 := B2.out.frozen 3 (by simp)
 have c0 := B2.out.cell_some (i := 0) rfl
 have c1 := B2.out.cell_some (i := 1) rfl
 have c2 := B2.out.cell_some (i := 2) rfl
 have c3 := B2.out.cell_some (i := 3) rfl
 have ZB := Lib.hid (storeP B2.out rfl 0 0 0 ⟨#[]⟩)
 have ZO := Lib.hid (storeP_below O2.out (Nat.le_refl _) 0 0 0 ⟨#[]⟩)
 have IX := Lib.hid (show (Instr.index 176 (.agg #[.int .i64 (k : Int), .int .i64 ((k : Int) + 1), .int .i64 ((k : Int) + 2), .int .i64 ((k : Int) + 3)]) (.int .i64 0)).run Tryz.prog w2 = .ok (.int .i64 (k : Int)) w2 from idx4 (k : Int) ((k : Int) + 1) ((k : Int) + 2) ((k : Int) + 3) w2 0 _ rfl)
 go_wp2_with fail
 go_loopw [6, 29] (fun bv iv wr => bv = .slice none 0 0 ∧ iv = .int .i64 0 ∧ wr = w2) (fun _ _ _ => 0)
 case atStart => exact ⟨rfl, rfl, rfl⟩
 case round =>
  obtain ⟨rfl, rfl, rfl⟩ := hrel
  go_wp2_with fail
  rw [IX.out]
  go_wp2_with fail
  refine (KR.out _ O2.out).mono ?_
  rintro e w3 ⟨rfl, rfl⟩
  go_wp2_with fail
  exact bodyPost_ret (results_cell_p rfl rfl ZB.out) rfl ⟨rfl, ZO.out⟩
set_option maxRecDepth 100000 in
set_option maxHeartbeats 8000000 in
theorem pread_up {w : World} {L : Dk.Loc} {n : Nat} {d : D} (hd : DiskAt w L n d) (id : Nat) (h : id < manyF n) (hdn : d.down = false) :
  Calls Tryz.prog 90 #[dp L.b, .int .i64 (id : Nat)] w fun e w' => e = .returned (.tuple #[(preadF d n id).1.val, .int .i64 (preadF d n id).2]) ∧ Below w.heap.size w w' := by
 have hn := hd.ok.small
 have hnow := hd.ok.now
 have hmn : manyF n ≤ 1023 := by unfold manyF; omega
 have hkn : 2 + 4 * id + 3 < n := by unfold manyF at h; omega
 have B0 := Lib.hid (Blk.new w 55 zeroC)
 have O0 := belowAlloc (Below.refl w.heap.size w) (.cells zeroC 55)
 have K := Lib.hid (many_any (hd.below O0))
 have O0 := Lib.hid O0
 have KS := Lib.hid (fun w => psectors_any (w := w) id (by omega))
 have KR := fun i (hi : i ≤ 3) w' (hb : Below w.heap.size w w') => by
  have h := read_any (hd.below hb) ((2 + 4 * id + i : Nat) : Int)
  rw [readF_up d n _ (by omega) hdn] at h
  exact h
 have KR := Lib.hid KR
 obtain ⟨l, hl⟩ : ∃ l, (d.now.drop (64 * (2 + 4 * id))).take 256 = l := ⟨_, rfl⟩
 have hres : preadF d n id = if (gotF l).2 ≠ 0 then (.zero, (gotF l).2) else if (gotF l).1.id ≠ (id : Int) then (.zero, 14) else ((gotF l).1, 0) := by
  unfold preadF
  rw [if_neg (by omega), if_neg (by simp [hdn]), show ((id : Nat) : Int).toNat = id from by omega, hl]
 generalize preadF d n id = R at *
 have HR := Lib.hid hres
 have HLen := Lib.hid (show ((d.now.drop (64 * (2 + 4 * id))).take 256).length = 256 from by rw [List.length_take, List.length_drop]; omega)
 have HNX := Lib.hid (sec_next d.now (2 + 4 * id))
 have HL := Lib.hid hl
 have KG := Lib.hid (fun w => pget_any (w := w) ⟨l.toArray⟩)
 have HLN := Lib.hid (show ∀ i, i ≤ 4 → ((d.now.drop (64 * (2 + 4 * id))).take (64 * i)).length = 64 * i from fun i hi => by rw [List.length_take, List.length_drop]; omega)
 have HSZ := Lib.hid (show ∀ i, i ≤ 3 → (sec d.now (2 + 4 * id + i)).length = 64 from fun i hi => sec_length hnow (by omega))
 have h1 : ¬ ((id : Nat) : Int) < 0 := by omega
 have h2 : ¬ ((manyF n : Nat) : Int) ≤ (id : Int) := by omega
 clear hd hl hres hnow
 generalize manyF n = mn at *
 generalize 2 + 4 * id = k at *
 unfold dp fourI at *
 go_enter Tryz.func90, Tryz.ntmps90
 go_wp2_with fail
 refine K.out.mono ?_
 rintro e w1 ⟨rfl, rfl⟩
 go_wp2_with fail
 refine (KS.out _).mono ?_
 rintro e w2 ⟨rfl, hb2⟩
 have O2 := Lib.hid (bstep O0.out hb2)
 have B2 := Lib.hid (B0.out.below hb2 B0.out.lt)
 have y2 := B2.out.lt
 clear hb2 B0 O0 K KS
 go_wp2_with fail
 go_loopw [6, 29] (fun bv iv wr => ∃ i : Nat, i ≤ 4 ∧ iv = .int .i64 i ∧ Slc wr 5 1 bv (64 * i) (bvs ((d.now.drop (64 * k)).take (64 * i))) ∧ Hid (Below w.heap.size w wr) ∧ Hid (Below w2.heap.size w2 wr) ∧ Hid (∀ g ∈ ownB bv, w2.heap.size ≤ g)) (fun _ iv _ => 4 - (intOf iv).toNat)
 case atStart => exact ⟨0, by omega, rfl, by rw [Nat.mul_zero, List.take_zero]; exact Slc.nil _ _ _, O2, Lib.hid (Below.refl _ _), Lib.hid (by simp [ownB])⟩
 case round =>
  obtain ⟨i, hi, rfl, S, O, OB, F⟩ := hrel
  have ii : i = 0 ∨ i = 1 ∨ i = 2 ∨ i = 3 ∨ i = 4 := by omega
  rcases ii with rfl | rfl | rfl | rfl | rfl
  ·have hr := KR.out 0 (by omega) _ O.out
   rw [show ((k + 0 : Nat) : Int) = (k : Int) from by omega] at hr
   have KR1 := Lib.hid hr
   have S : Slc wr 5 1 _ 0 (bvs ((d.now.drop (64 * k)).take 0)) := S
   obtain ⟨V1, vc1, rfl⟩ := slc_val S
   obtain ⟨U, hU⟩ : ∃ U : ByteArray, (⟨(sec d.now (k + 0)).toArray⟩ : ByteArray) = U := ⟨_, rfl⟩
   rw [hU] at KR1
   have hUl : U.data.toList = sec d.now (k + 0) := by rw [← hU]
   have hUs : U.size = 64 := by rw [← hU, str_size]; exact HSZ.out 0 (by omega)
   obtain ⟨v2, w4, ea, S2, ow, fr⟩ := append_str (P := Tryz.prog) S 141 9 141 Tryz.underlying141 Tryz.underlying9 Crc.info_u8 U (by rw [hUs]; omega)
   obtain ⟨V2, vc2, rfl⟩ := slc_val S2
   rw [hUs] at ea S2 fr
   have EA := Lib.hid (show appStr Tryz.prog 141 9 141 wr (.slice V1 0 vc1) (.string U) = .ok (.slice V2 64 vc2) w4 from ea)
   have SX := Lib.hid (show Slc w4 5 1 (.slice V2 64 vc2) (64 * 1) (bvs ((d.now.drop (64 * k)).take (64 * 1))) from by
    have hn := HNX.out 0
    rw [show 64 * (0 + 1) = 64 * 1 from rfl, ← hUl] at hn
    rw [hn, bvs_append]
    exact S2)
   have OX := Lib.hid (O.out.trans (ow.below_of O.out.size (fun g hg => Nat.le_trans O2.out.size (F.out g hg))))
   have OBX := Lib.hid (OB.out.trans (ow.below_of OB.out.size F.out))
   have FX := Lib.hid (show ∀ g ∈ ownB (.slice V2 64 vc2), w2.heap.size ≤ g from fun g hg => (fr g hg).elim (F.out g) (fun h => Nat.le_trans OB.out.size h))
   have IX := Lib.hid (show (Instr.index 176 (.agg #[.int .i64 (k : Int), .int .i64 ((k : Int) + 1), .int .i64 ((k : Int) + 2), .int .i64 ((k : Int) + 3)]) (.int .i64 0)).run Tryz.prog wr = .ok (.int .i64 ((k : Int))) wr from idx4 (k : Int) ((k : Int) + 1) ((k : Int) + 2) ((k : Int) + 3) wr 0 _ rfl)
   clear hr ea S2 ow fr S hU hUl
   go_wp2_with fail
   rw [IX.out]
   go_wp2_with fail
   refine KR1.out.mono ?_
   rintro e wz ⟨rfl, rfl⟩
   go_wp2_with fail
   rw [EA.out]
   go_wp2_with fail
   go_roundw
   case rel => exact ⟨1, by omega, by first | rfl | simp, SX.out, OX, OBX, FX⟩
   case measure => first | decide | simp [intOf]
  ·have hr := KR.out 1 (by omega) _ O.out
   rw [show ((k + 1 : Nat) : Int) = (k : Int) + 1 from by omega] at hr
   have KR1 := Lib.hid hr
   have S : Slc wr 5 1 _ 64 (bvs ((d.now.drop (64 * k)).take 64)) := S
   obtain ⟨V1, vc1, rfl⟩ := slc_val S
   obtain ⟨U, hU⟩ : ∃ U : ByteArray, (⟨(sec d.now (k + 1)).toArray⟩ : ByteArray) = U := ⟨_, rfl⟩
   rw [hU] at KR1
   have hUl : U.data.toList = sec d.now (k + 1) := by rw [← hU]
   have hUs : U.size = 64 := by rw [← hU, str_size]; exact HSZ.out 1 (by omega)
   obtain ⟨v2, w4, ea, S2, ow, fr⟩ := append_str (P := Tryz.prog) S 141 9 141 Tryz.underlying141 Tryz.underlying9 Crc.info_u8 U (by rw [hUs]; omega)
   obtain ⟨V2, vc2, rfl⟩ := slc_val S2
   rw [hUs] at ea S2 fr
   have EA := Lib.hid (show appStr Tryz.prog 141 9 141 wr (.slice V1 64 vc1) (.string U) = .ok (.slice V2 128 vc2) w4 from ea)
   have SX := Lib.hid (show Slc w4 5 1 (.slice V2 128 vc2) (64 * 2) (bvs ((d.now.drop (64 * k)).take (64 * 2))) from by
    have hn := HNX.out 1
    rw [show 64 * (1 + 1) = 64 * 2 from rfl, ← hUl] at hn
    rw [hn, bvs_append]
    exact S2)
   have OX := Lib.hid (O.out.trans (ow.below_of O.out.size (fun g hg => Nat.le_trans O2.out.size (F.out g hg))))
   have OBX := Lib.hid (OB.out.trans (ow.below_of OB.out.size F.out))
   have FX := Lib.hid (show ∀ g ∈ ownB (.slice V2 128 vc2), w2.heap.size ≤ g from fun g hg => (fr g hg).elim (F.out g) (fun h => Nat.le_trans OB.out.size h))
   have IX := Lib.hid (show (Instr.index 176 (.agg #[.int .i64 (k : Int), .int .i64 ((k : Int) + 1), .int .i64 ((k : Int) + 2), .int .i64 ((k : Int) + 3)]) (.int .i64 1)).run Tryz.prog wr = .ok (.int .i64 ((k : Int) + 1)) wr from idx4 (k : Int) ((k : Int) + 1) ((k : Int) + 2) ((k : Int) + 3) wr 1 _ rfl)
   clear hr ea S2 ow fr S hU hUl
   go_wp2_with fail
   rw [IX.out]
   go_wp2_with fail
   refine KR1.out.mono ?_
   rintro e wz ⟨rfl, rfl⟩
   go_wp2_with fail
   rw [EA.out]
   go_wp2_with fail
   go_roundw
   case rel => exact ⟨2, by omega, by first | rfl | simp, SX.out, OX, OBX, FX⟩
   case measure => first | decide | simp [intOf]
  ·have hr := KR.out 2 (by omega) _ O.out
   rw [show ((k + 2 : Nat) : Int) = (k : Int) + 2 from by omega] at hr
   have KR1 := Lib.hid hr
   have S : Slc wr 5 1 _ 128 (bvs ((d.now.drop (64 * k)).take 128)) := S
   obtain ⟨V1, vc1, rfl⟩ := slc_val S
   obtain ⟨U, hU⟩ : ∃ U : ByteArray, (⟨(sec d.now (k + 2)).toArray⟩ : ByteArray) = U := ⟨_, rfl⟩
   rw [hU] at KR1
   have hUl : U.data.toList = sec d.now (k + 2) := by rw [← hU]
   have hUs : U.size = 64 := by rw [← hU, str_size]; exact HSZ.out 2 (by omega)
   obtain ⟨v2, w4, ea, S2, ow, fr⟩ := append_str (P := Tryz.prog) S 141 9 141 Tryz.underlying141 Tryz.underlying9 Crc.info_u8 U (by rw [hUs]; omega)
   obtain ⟨V2, vc2, rfl⟩ := slc_val S2
   rw [hUs] at ea S2 fr
   have EA := Lib.hid (show appStr Tryz.prog 141 9 141 wr (.slice V1 128 vc1) (.string U) = .ok (.slice V2 192 vc2) w4 from ea)
   have SX := Lib.hid (show Slc w4 5 1 (.slice V2 192 vc2) (64 * 3) (bvs ((d.now.drop (64 * k)).take (64 * 3))) from by
    have hn := HNX.out 2
    rw [show 64 * (2 + 1) = 64 * 3 from rfl, ← hUl] at hn
    rw [hn, bvs_append]
    exact S2)
   have OX := Lib.hid (O.out.trans (ow.below_of O.out.size (fun g hg => Nat.le_trans O2.out.size (F.out g hg))))
   have OBX := Lib.hid (OB.out.trans (ow.below_of OB.out.size F.out))
   have FX := Lib.hid (show ∀ g ∈ ownB (.slice V2 192 vc2), w2.heap.size ≤ g from fun g hg => (fr g hg).elim (F.out g) (fun h => Nat.le_trans OB.out.size h))
   have IX := Lib.hid (show (Instr.index 176 (.agg #[.int .i64 (k : Int), .int .i64 ((k : Int) + 1), .int .i64 ((k : Int) + 2), .int .i64 ((k : Int) + 3)]) (.int .i64 2)).run Tryz.prog wr = .ok (.int .i64 ((k : Int) + 2)) wr from idx4 (k : Int) ((k : Int) + 1) ((k : Int) + 2) ((k : Int) + 3) wr 2 _ rfl)
   clear hr ea S2 ow fr S hU hUl
   go_wp2_with fail
   rw [IX.out]
   go_wp2_with fail
   refine KR1.out.mono ?_
   rintro e wz ⟨rfl, rfl⟩
   go_wp2_with fail
   rw [EA.out]
   go_wp2_with fail
   go_roundw
   case rel => exact ⟨3, by omega, by first | rfl | simp, SX.out, OX, OBX, FX⟩
   case measure => first | decide | simp [intOf]
  ·have hr := KR.out 3 (by omega) _ O.out
   rw [show ((k + 3 : Nat) : Int) = (k : Int) + 3 from by omega] at hr
   have KR1 := Lib.hid hr
   have S : Slc wr 5 1 _ 192 (bvs ((d.now.drop (64 * k)).take 192)) := S
   obtain ⟨V1, vc1, rfl⟩ := slc_val S
   obtain ⟨U, hU⟩ : ∃ U : ByteArray, (⟨(sec d.now (k + 3)).toArray⟩ : ByteArray) = U := ⟨_, rfl⟩
   rw [hU] at KR1
   have hUl : U.data.toList = sec d.now (k + 3) := by rw [← hU]
   have hUs : U.size = 64 := by rw [← hU, str_size]; exact HSZ.out 3 (by omega)
   obtain ⟨v2, w4, ea, S2, ow, fr⟩ := append_str (P := Tryz.prog) S 141 9 141 Tryz.underlying141 Tryz.underlying9 Crc.info_u8 U (by rw [hUs]; omega)
   obtain ⟨V2, vc2, rfl⟩ := slc_val S2
   rw [hUs] at ea S2 fr
   have EA := Lib.hid (show appStr Tryz.prog 141 9 141 wr (.slice V1 192 vc1) (.string U) = .ok (.slice V2 256 vc2) w4 from ea)
   have SX := Lib.hid (show Slc w4 5 1 (.slice V2 256 vc2) (64 * 4) (bvs ((d.now.drop (64 * k)).take (64 * 4))) from by
    have hn := HNX.out 3
    rw [show 64 * (3 + 1) = 64 * 4 from rfl, ← hUl] at hn
    rw [hn, bvs_append]
    exact S2)
   have OX := Lib.hid (O.out.trans (ow.below_of O.out.size (fun g hg => Nat.le_trans O2.out.size (F.out g hg))))
   have OBX := Lib.hid (OB.out.trans (ow.below_of OB.out.size F.out))
   have FX := Lib.hid (show ∀ g ∈ ownB (.slice V2 256 vc2), w2.heap.size ≤ g from fun g hg => (fr g hg).elim (F.out g) (fun h => Nat.le_trans OB.out.size h))
   have IX := Lib.hid (show (Instr.index 176 (.agg #[.int .i64 (k : Int), .int .i64 ((k : Int) + 1), .int .i64 ((k : Int) + 2), .int .i64 ((k : Int) + 3)]) (.int .i64 3)).run Tryz.prog wr = .ok (.int .i64 ((k : Int) + 3)) wr from idx4 (k : Int) ((k : Int) + 1) ((k : Int) + 2) ((k : Int) + 3) wr 3 _ rfl)
   clear hr ea S2 ow fr S hU hUl
   go_wp2_with fail
   rw [IX.out]
   go_wp2_with fail
   refine KR1.out.mono ?_
   rintro e wz ⟨rfl, rfl⟩
   go_wp2_with fail
   rw [EA.out]
   go_wp2_with fail
   go_roundw
   case rel => exact ⟨4, by omega, by first | rfl | simp, SX.out, OX, OBX, FX⟩
   case measure => first | decide | simp [intOf]
  ·have ST := Lib.hid (str_slc (P := Tryz.prog) S 141 9 Tryz.underlying141 Tryz.underlying5 Tryz.underlying9)
   rw [show 64 * 4 = 256 from rfl, HL.out] at ST
   obtain ⟨VA, vc, rfl⟩ := slc_val S
   have B3 := Lib.hid (B2.out.below OB.out y2)
   clear S
   go_wp2_with fail
   rw [ST.out]
   go_wp2_with fail
   refine (KG.out _).mono ?_
   rintro e w5 ⟨rfl, hb5⟩
   obtain ⟨P, hP⟩ : ∃ P, (gotF l).1 = P := ⟨_, rfl⟩
   obtain ⟨er, her⟩ : ∃ er, (gotF l).2 = er := ⟨_, rfl⟩
   have GP := Lib.hid (And.intro hP her)
   rw [hP, her]
   clear hP her
   obtain ⟨pid, pep, pkd, ps⟩ := P
   have O6 := Lib.hid (belowAlloc (bstep O.out hb5) (.cells #[.int .i64 pid, .int .i64 pep, .int .i64 pkd, .string ⟨ps.toArray⟩] 55))
   have B6 := Lib.hid ((B3.out.below hb5 B3.out.lt).alloc (.cells #[.int .i64 pid, .int .i64 pep, .int .i64 pkd, .string ⟨ps.toArray⟩] 55))
   have P6 := Lib.hid (Blk.new w5 55 #[.int .i64 pid, .int .i64 pep, .int .i64 pkd, .string ⟨ps.toArray⟩])
   clear hb5 B3
   unfold PG.val pageV
   dsimp only
   have z0 := B6.out.frozen 0 (by simp)
   have z1 := B6.out.frozen 1 (by simp)
   have z2 := B6.out.frozen 2 (by simp)
   have z3 := B6.out.frozen 3 (by simp)
   have c0 := B6.out.cell_some (i := 0) rfl
   have c1 := B6.out.cell_some (i := 1) rfl
   have c2 := B6.out.cell_some (i := 2) rfl
   have c3 := B6.out.cell_some (i := 3) rfl
   have p0 := P6.out.cell_some (i := 0) rfl
   have p1 := P6.out.cell_some (i := 1) rfl
   have p2 := P6.out.cell_some (i := 2) rfl
   have p3 := P6.out.cell_some (i := 3) rfl
   have ZB := Lib.hid (storeP B6.out rfl 0 0 0 ⟨#[]⟩)
   have ZO := Lib.hid (storeP_below O6.out (Nat.le_refl _) 0 0 0 ⟨#[]⟩)
   have YB := Lib.hid (storeP B6.out rfl pid pep pkd ⟨ps.toArray⟩)
   have YO := Lib.hid (storeP_below O6.out (Nat.le_refl _) pid pep pkd ⟨ps.toArray⟩)
   by_cases her : er = 0
   ·subst her
    by_cases hpi : pid = id
    ·have hq : (pid != (id : Int)) = false := by rw [bne_eq_false_iff_eq]; exact hpi
     have RES := Lib.hid (show (if (gotF l).2 ≠ 0 then (PG.zero, (gotF l).2) else if (gotF l).1.id ≠ (id : Int) then (PG.zero, 14) else ((gotF l).1, 0)) = (⟨pid, pep, pkd, ps⟩, 0) from by
      rw [GP.out.1, GP.out.2]; simp [hpi])
     clear hpi
     go_wp2_with fail
     exact bodyPost_ret (results_cell_p rfl rfl YB.out) rfl ⟨by rw [HR.out.trans RES.out]; rfl, YO.out⟩
    ·have hq : (pid != (id : Int)) = true := by rw [bne_iff_ne]; exact hpi
     have RES := Lib.hid (show (if (gotF l).2 ≠ 0 then (PG.zero, (gotF l).2) else if (gotF l).1.id ≠ (id : Int) then (PG.zero, 14) else ((gotF l).1, 0)) = (PG.zero, 14) from by
      rw [GP.out.1, GP.out.2]; simp [hpi])
     clear hpi
     go_wp2_with fail
     exact bodyPost_ret (results_cell_p rfl rfl ZB.out) rfl ⟨by rw [HR.out.trans RES.out]; rfl, ZO.out⟩
   ·have hq : (er != 0) = true := by rw [bne_iff_ne]; exact her
    have RES := Lib.hid (show (if (gotF l).2 ≠ 0 then (PG.zero, (gotF l).2) else if (gotF l).1.id ≠ (id : Int) then (PG.zero, 14) else ((gotF l).1, 0)) = (PG.zero, er) from by
     rw [GP.out.1, GP.out.2, if_pos her])
    clear her
    go_wp2_with fail
    exact bodyPost_ret (results_cell_p rfl rfl ZB.out) rfl ⟨by rw [HR.out.trans RES.out]; rfl, ZO.out⟩
theorem pread_any {w : World} {L : Dk.Loc} {n : Nat} {d : D} (hd : DiskAt w L n d) (id : Int) :
  Calls Tryz.prog 90 #[dp L.b, .int .i64 id] w fun e w' => e = .returned (.tuple #[(preadF d n id).1.val, .int .i64 (preadF d n id).2]) ∧ Below w.heap.size w w' := by
 by_cases h0 : id < 0
 ·have : preadF d n id = (.zero, 3) := by unfold preadF; rw [if_pos (.inl h0)]
  rw [this]
  exact pread_neg L.b id h0
 ·by_cases h1 : (manyF n : Int) ≤ id
  ·have : preadF d n id = (.zero, 3) := by unfold preadF; rw [if_pos (.inr h1)]
   rw [this]
   exact pread_far hd id (by omega) h1
  ·obtain ⟨a, rfl⟩ := Int.eq_ofNat_of_zero_le (show 0 ≤ id by omega)
   cases hdn : d.down
   ·exact pread_up hd a (by omega) hdn
   ·have : preadF d n a = (.zero, 13) := by unfold preadF; rw [if_neg (by omega), if_pos hdn]
    rw [this]
    exact pread_down hd a (by omega) hdn
end Go.Proofs.YtbelcgjbhpjnpaaGreat.Pg

/- pages on a disk: what was written is read. -/
namespace Go.Proofs.YtbelcgjbhpjnpaaGreat.Pg
open Go.RowKit Pk Dk
theorem beN_be8 (N : Nat) (h : N < 18446744073709551616) : beN (be8 N) = N := by
 have e : be8 N = [UInt8.ofNat (N / 72057594037927936), UInt8.ofNat (N / 281474976710656), UInt8.ofNat (N / 1099511627776), UInt8.ofNat (N / 4294967296), UInt8.ofNat (N / 16777216), UInt8.ofNat (N / 65536), UInt8.ofNat (N / 256), UInt8.ofNat (N / 1)] := rfl
 rw [e]
 simp only [beN, List.foldl_cons, List.foldl_nil, UInt8.toNat_ofNat']
 omega
theorem packI_get (n : Int) (h0 : 0 ≤ n) (h1 : n ≤ 9223372036854775807) : (beN (packI n) : Int) - 9223372036854775808 = n := by
 unfold packI
 rw [beN_be8 _ (by omega)]
 omega
theorem beN_kd (N : Nat) (h : N ≤ 2147483647) : beN ((be8 N).drop 4) = N := by
 rw [drop_be8]
 simp only [beN, List.foldl_cons, List.foldl_nil, UInt8.toNat_ofNat']
 omega
theorem take_app {α} (a b : List α) (n : Nat) (h : a.length = n) : (a ++ b).take n = a := by rw [List.take_append_of_le_length (by omega), List.take_of_length_le (by omega)]
theorem drop_app {α} (a b : List α) (n : Nat) (h : a.length = n) : (a ++ b).drop n = b := by rw [← h]; exact List.drop_left
theorem pad_parts (id ep kd : Int) (s : List UInt8) (h : s.length ≤ 232) : padL (bodyL id ep kd s) 252 = packI id ++ (packI ep ++ ((be8 kd.toNat).drop 4 ++ padL s 232)) := by
 rw [← pad_body id ep kd s h]
 simp only [List.append_assoc]
/-- what was laid is read -/
theorem gotF_page {id ep kd : Int} {s : List UInt8} (hok : okP id ep kd = true) (hid : id ≤ 9223372036854775807) (hs : s.length ≤ 232) :
  gotF (pageL id ep kd s) = (⟨id, ep, kd, padL s 232⟩, 0) := by
 have hb := (okP_iff id ep kd).1 hok
 have hpl : (padL (bodyL id ep kd s) 252).length = 252 := by
  have : (bodyL id ep kd s).length = 20 + s.length := by unfold bodyL; simp [packI_len, be8_len]; omega
  unfold padL; rw [List.length_append, List.length_replicate]; omega
 have hd4 : (pageL id ep kd s).drop 4 = padL (bodyL id ep kd s) 252 := drop_app _ _ 4 rfl
 have ht4 : (pageL id ep kd s).take 4 = Crc.fourL (Crc.sumF (padL (bodyL id ep kd s) 252)) := take_app _ _ 4 rfl
 have hlen : (pageL id ep kd s).length = 256 := by
  unfold pageL Crc.layF
  rw [List.length_append, hpl]; rfl
 have f4 : ((be8 kd.toNat).drop 4).length = 4 := by rw [List.length_drop, be8_len]
 have e1 : (pageL id ep kd s).drop 12 = packI ep ++ ((be8 kd.toNat).drop 4 ++ padL s 232) := by
  rw [show 12 = 4 + 8 from rfl, ← List.drop_drop, hd4, pad_parts _ _ _ _ hs]
  exact drop_app _ _ 8 (packI_len _)
 have e2 : (pageL id ep kd s).drop 20 = (be8 kd.toNat).drop 4 ++ padL s 232 := by
  rw [show 20 = 12 + 8 from rfl, ← List.drop_drop, e1]
  exact drop_app _ _ 8 (packI_len _)
 have e3 : (pageL id ep kd s).drop 24 = padL s 232 := by
  rw [show 24 = 20 + 4 from rfl, ← List.drop_drop, e2]
  exact drop_app _ _ 4 f4
 have hdec : decG (pageL id ep kd s) = ⟨id, ep, kd, padL s 232⟩ := by
  unfold decG
  rw [e1, e2, e3, hd4, pad_parts _ _ _ _ hs, take_app _ _ 8 (packI_len _), take_app _ _ 8 (packI_len _), take_app _ _ 4 f4, packI_get id hb.1 hid, packI_get ep hb.2.1 (by omega), beN_kd _ (by omega)]
  congr 1
  omega
 unfold gotF
 rw [if_neg (by rw [hlen]; simp), hd4, ht4, if_neg (by simp), hdec]
 simp only [hok, if_true]
theorem count_now (d : D) : d.countF.1.now = d.now := by
 unfold D.countF
 split
 ·rfl
 ·split <;> rfl
theorem count_quiet (d : D) (h : d.armed = 0) : d.countF.2 = 0 ∧ d.countF.1.armed = 0 ∧ d.countF.1.down = d.down := by
 unfold D.countF
 rw [if_pos h]
 exact ⟨rfl, h, rfl⟩
theorem keep_quiet (d : D) (i : Nat) : (d.keepF i).armed = d.armed ∧ (d.keepF i).down = d.down := by unfold D.keepF; split <;> exact ⟨rfl, rfl⟩
theorem write_fine {d : D} {n k : Nat} (hd : d.down = false) (ha : d.armed = 0) (hk : k < n) (s : List UInt8) : (d.writeF n k s).2 = 0 ∧ (d.writeF n k s).1.down = false ∧ (d.writeF n k s).1.armed = 0 := by
 have h0 : d.atF n k = 0 := by rw [atF_val d n k hk]; simp [hd]
 unfold D.writeF
 rw [if_pos h0]
 have h1 : (d.putF (k : Int).toNat s).armed = 0 := ((keep_quiet d _).1).trans ha
 have h2 : (d.putF (k : Int).toNat s).down = false := ((keep_quiet d _).2).trans hd
 obtain ⟨c1, c2, c3⟩ := count_quiet _ h1
 exact ⟨c1, c3.trans h2, c2⟩
theorem w4_fine {d : D} {n k : Nat} (b : List UInt8) (hd : d.down = false) (ha : d.armed = 0) : ∀ i, k + i ≤ n → (w4 d n k b i).2 = 0 ∧ (w4 d n k b i).1.down = false ∧ (w4 d n k b i).1.armed = 0
 | 0, _ => ⟨rfl, hd, ha⟩
 | i + 1, hi => by
  obtain ⟨h1, h2, h3⟩ := w4_fine (n := n) (k := k) b hd ha i (by omega)
  rw [w4_ok d n k b i h1]
  rw [show (k : Int) + (i : Int) = ((k + i : Nat) : Int) by omega]
  exact write_fine h2 h3 (by omega) _
theorem fill_same (c : List UInt8) (h : c.length = 64) : fillF c = c := by
 unfold fillF
 rw [h, Nat.sub_self, List.replicate_zero, List.append_nil, List.take_of_length_le (by omega)]
theorem write_now {d : D} {n : Nat} (hok : d.Ok n) (k : Nat) (hk : k < n) (s : List UInt8) (he : (d.writeF n k s).2 = 0) (j : Nat) (hj : j < n) : sec (d.writeF n k s).1.now j = if k = j then fillF s else sec d.now j := by
 unfold D.writeF at he ⊢
 by_cases h0 : d.atF n k = 0
 ·rw [if_pos h0, count_now]
  show sec (setSec d.now (k : Int).toNat (fillF s)) j = _
  rw [show ((k : Nat) : Int).toNat = k from by omega]
  exact sec_set hok.now hk (fillF_length s) hj
 ·rw [if_neg h0] at he
  exact absurd he h0
theorem w4_now {d : D} {n k : Nat} (hok : d.Ok n) (b : List UInt8) (hb : b.length = 256) : ∀ i, i ≤ 4 → k + i ≤ n → (w4 d n k b i).2 = 0 → ∀ j, j < n → sec (w4 d n k b i).1.now j = if k ≤ j ∧ j < k + i then (b.drop (64 * (j - k))).take 64 else sec d.now j
 | 0, _, _, _, j, _ => by rw [if_neg (by omega)]; rfl
 | i + 1, hi, hkn, he, j, hj => by
  have h1 : (w4 d n k b i).2 = 0 := by
   by_cases h : (w4 d n k b i).2 = 0
   ·exact h
   ·rw [w4_stop d n k b i (i + 1) h (by omega)] at he
    exact absurd he h
  have ih := w4_now hok b hb i (by omega) (by omega) h1 j hj
  rw [w4_ok d n k b i h1] at he ⊢
  rw [show (k : Int) + (i : Int) = ((k + i : Nat) : Int) by omega] at he ⊢
  rw [write_now (w4_okD hok k b i) (k + i) (by omega) _ he j hj]
  by_cases hji : k + i = j
  ·rw [if_pos hji, if_pos (by omega), fill_same _ (by rw [List.length_take, List.length_drop]; omega)]
   congr 3; omega
  ·rw [if_neg hji, ih]
   by_cases hr : k ≤ j ∧ j < k + i
   ·rw [if_pos hr, if_pos (by omega)]
   ·rw [if_neg hr, if_neg (by omega)]
theorem take4_sec (F : List UInt8) (k : Nat) : (F.drop (64 * k)).take 256 = sec F k ++ sec F (k + 1) ++ sec F (k + 2) ++ sec F (k + 3) := by
 have h0 := sec_next F k 0
 have h1 := sec_next F k 1
 have h2 := sec_next F k 2
 have h3 := sec_next F k 3
 simp only [Nat.mul_zero, List.take_zero, List.nil_append, Nat.add_zero] at h0
 rw [show (256 : Nat) = 64 * (3 + 1) from rfl, h3, h2, h1, h0]
theorem chunks (b : List UInt8) (hb : b.length = 256) : (b.drop (64 * 0)).take 64 ++ (b.drop (64 * 1)).take 64 ++ (b.drop (64 * 2)).take 64 ++ (b.drop (64 * 3)).take 64 = b := by
 have := take4_sec b 0
 rw [Nat.mul_zero, List.drop_zero, List.take_of_length_le (by omega)] at this
 exact this.symm
/-- the page's bytes, behind a write that went well -/
theorem pwrite_bytes {d : D} {n : Nat} (hok : d.Ok n) (id : Nat) (b : List UInt8) (hb : b.length = 256) (hid : id < manyF n) (he : (w4 d n (2 + 4 * id) b 4).2 = 0) :
  ((w4 d n (2 + 4 * id) b 4).1.now.drop (64 * (2 + 4 * id))).take 256 = b := by
 have hk : 2 + 4 * id + 3 < n := by unfold manyF at hid; omega
 have hw := w4_now hok b hb 4 (by omega) (by omega) he
 rw [take4_sec, hw _ (by omega), hw _ (by omega), hw _ (by omega), hw _ (by omega)]
 rw [if_pos (by omega), if_pos (by omega), if_pos (by omega), if_pos (by omega)]
 have := chunks b hb
 rw [show 2 + 4 * id - (2 + 4 * id) = 0 by omega, show 2 + 4 * id + 1 - (2 + 4 * id) = 1 by omega, show 2 + 4 * id + 2 - (2 + 4 * id) = 2 by omega, show 2 + 4 * id + 3 - (2 + 4 * id) = 3 by omega]
 exact this
/-- another page's bytes -/
theorem pwrite_other {d : D} {n : Nat} (hok : d.Ok n) (id jd : Nat) (b : List UInt8) (hb : b.length = 256) (hid : id < manyF n) (hjd : jd < manyF n) (hne : id ≠ jd) (he : (w4 d n (2 + 4 * id) b 4).2 = 0) :
  ((w4 d n (2 + 4 * id) b 4).1.now.drop (64 * (2 + 4 * jd))).take 256 = (d.now.drop (64 * (2 + 4 * jd))).take 256 := by
 have hk : 2 + 4 * id + 3 < n := by unfold manyF at hid; omega
 have hk2 : 2 + 4 * jd + 3 < n := by unfold manyF at hjd; omega
 have hw := w4_now hok b hb 4 (by omega) (by omega) he
 rw [take4_sec, hw _ (by omega), hw _ (by omega), hw _ (by omega), hw _ (by omega), take4_sec]
 rw [if_neg (by omega), if_neg (by omega), if_neg (by omega), if_neg (by omega)]
theorem pread_of {d : D} {n : Nat} {id : Nat} {b : List UInt8} (hid : id < manyF n) (hd : d.down = false) (hb : (d.now.drop (64 * (2 + 4 * id))).take 256 = b) :
  preadF d n id = if (gotF b).2 ≠ 0 then (.zero, (gotF b).2) else if (gotF b).1.id ≠ (id : Int) then (.zero, 14) else ((gotF b).1, 0) := by
 unfold preadF
 rw [if_neg (by omega), if_neg (by simp [hd]), show ((id : Nat) : Int).toNat = id from by omega, hb]
/-- what was written is read -/
theorem write_read {d : D} {n : Nat} (hok : d.Ok n) (hd : d.down = false) (ha : d.armed = 0) (id : Nat) (ep kd : Int) (s : List UInt8) (hid : id < manyF n) (hp : okP id ep kd = true) (hs : s.length ≤ 232) :
  (pwriteF d n id ep kd s).2 = 0 ∧ (pwriteF d n id ep kd s).1.down = false ∧ (pwriteF d n id ep kd s).1.armed = 0 ∧ preadF (pwriteF d n id ep kd s).1 n id = (⟨id, ep, kd, padL s 232⟩, 0) ∧
   ∀ jd, jd < manyF n → jd ≠ id → preadF (pwriteF d n id ep kd s).1 n jd = preadF d n jd := by
 have hput : putF id ep kd s = (pageL id ep kd s, 0) := by unfold putF; rw [if_pos hp, if_neg (by omega)]
 have hlen := (putF_len (by rw [hput])).1
 rw [hput] at hlen
 have hw : pwriteF d n id ep kd s = w4 d n (2 + 4 * id) (pageL id ep kd s) 4 := by
  unfold pwriteF
  rw [hput]
  rw [if_neg (by simp), if_neg (by omega)]; rfl
 have hk : 2 + 4 * id + 4 ≤ n := by unfold manyF at hid; omega
 have hid2 : ((id : Nat) : Int) ≤ 9223372036854775807 := by have := hok.small; unfold manyF at hid; omega
 obtain ⟨f1, f2, f3⟩ := w4_fine (k := 2 + 4 * id) (pageL id ep kd s) hd ha 4 hk
 rw [hw]
 refine ⟨f1, f2, f3, ?_, fun jd hjd hne => ?_⟩
 ·rw [pread_of hid f2 (pwrite_bytes hok id _ hlen hid f1), gotF_page hp hid2 hs]
  simp
 ·rw [pread_of hjd f2 rfl, pread_of hjd hd rfl, pwrite_other hok id jd _ hlen hid hjd (Ne.symm hne) f1]
theorem zero_pread : preadF (D.zero 10) 10 0 = (.zero, 14) := by
 have h : ((D.zero 10).now.drop (64 * (2 + 4 * 0))).take 256 = List.replicate 256 0 := by
  show (List.drop _ (List.replicate (64 * 10) 0)).take 256 = _
  rw [List.drop_replicate, List.take_replicate]; rfl
 have hc : gotF (List.replicate 256 0) = (.zero, 14) := by
  unfold gotF
  rw [if_neg (by rw [List.length_replicate]; exact fun h => h rfl), if_pos (by decide +kernel)]
 have := pread_of (d := D.zero 10) (n := 10) (id := 0) (by decide) rfl h
 rw [hc] at this
 exact this
end Go.Proofs.YtbelcgjbhpjnpaaGreat.Pg
