/- pages on a disk: where a page lies. -/
import Derived.Test.YtmofbgcanehdoaaPg8
import Derived.Test.YtmofbgcanehdoaaDisk5
namespace Go.Proofs.Ytmofbgcanehdoaa.Pg
open Go.RowKit Pk Dk
attribute [local go_sem ↓] Go.wp_at_zero Go.wp_at_succ
def manyF (n : Nat) : Nat := (n - 2) / 4
set_option maxHeartbeats 1000000 in
theorem many_any {w : World} {L : Dk.Loc} {n : Nat} {d : D} (h : DiskAt w L n d) :
    Calls Try.prog 19 #[dp L.b] w fun e w' => e = .returned (.int .i64 (manyF n : Nat)) ∧ w = w' := by
  have K := Lib.hid (sectors_any h)
  have hn := h.ok.small
  clear h
  unfold dp at *
  have e1 : IntKind.i64.wrap ((n : Int) - 2) = (n : Int) - 2 := IntWalk.i64_in _ (by omega)
  by_cases h2 : 2 ≤ n
  · obtain ⟨m, rfl⟩ : ∃ m, n = m + 2 := ⟨n - 2, by omega⟩
    have e2 : IntKind.i64.wrap ((((m + 2 : Nat) : Int) - 2).tdiv 4) = ((manyF (m + 2) : Nat) : Int) := by
      have : (((m + 2 : Nat) : Int) - 2) = (m : Int) := by omega
      rw [this, Int.tdiv_eq_ediv_of_nonneg (by omega), IntWalk.i64_in _ (by omega)]
      unfold manyF; omega
    have h3 : ¬ ((m + 2 : Nat) : Int) - 2 < 0 := by omega
    have HM := Lib.hid (show ((manyF (m + 2) : Nat) : Int) = (m : Int) / 4 from by unfold manyF; omega)
    go_enter Try.func19, Try.ntmps19
    go_wp2_with fail
    refine K.out.mono ?_
    rintro e w1 ⟨rfl, rfl⟩
    go_wp2_with fail
    all_goals
      go_ret
      refine ⟨?_, rfl⟩
      rw [HM.out]
      first | (simp; done) | (simp; omega)
  · have h3 : (n : Int) - 2 < 0 := by omega
    have HM := Lib.hid (show ((manyF n : Nat) : Int) = 0 from by unfold manyF; omega)
    go_enter Try.func19, Try.ntmps19
    go_wp2_with fail
    refine K.out.mono ?_
    rintro e w1 ⟨rfl, rfl⟩
    go_wp2_with fail
    go_ret
    refine ⟨?_, rfl⟩
    rw [HM.out]
    first | (simp; done) | (simp; omega)
set_option maxHeartbeats 1000000 in
theorem many_nil (w : World) : Calls Try.prog 19 #[.pointer none] w fun e w' => e = .returned (.int .i64 0) ∧ w = w' := by
  have K := Lib.hid (sectors_nil w)
  go_enter Try.func19, Try.ntmps19
  go_wp2_with fail
  refine K.out.mono ?_
  rintro e w1 ⟨rfl, rfl⟩
  go_wp2_with fail
  go_ret
  exact ⟨by first | rfl | simp, rfl⟩
/-- four sectors, from k on -/
def fourI (k : Nat) : List Value := [.int .i64 (k : Nat), .int .i64 ((k : Int) + 1), .int .i64 ((k : Int) + 2), .int .i64 ((k : Int) + 3)]
def fourTo (k i : Nat) : List Value := (fourI k).take i ++ List.replicate (4 - i) (.int .i64 0)
theorem results_cell_one {fn : Func} {p : Tmp} {ty : TypeId} (h : fn.results = #[.cell p ty]) (tmps : Array Value) (P : Program) (w : World) :
    (results fn tmps).run P w = ((asAddr (tmps.getD p undef)).run P w).andThen fun a w₁ => (loadVar ty a).run P w₁ := by
  simp only [results, h]
  simp [Sem.run_bind, Result.andThen]
theorem ret_four {fn : Func} {p : Tmp} {w : World} {g : Nat} {a b c d : Int} {tmps : Array Value} (h : fn.results = #[.cell p 75]) (hp : tmps.getD p undef = .pointer (some ⟨g, 0, none⟩)) (B : Blk w g 75 #[.int .i64 a, .int .i64 b, .int .i64 c, .int .i64 d]) :
    (results fn tmps).run Try.prog w = .ok (.agg #[.int .i64 a, .int .i64 b, .int .i64 c, .int .i64 d]) w := by
  have c0 := B.cell_some (i := 0) rfl
  have c1 := B.cell_some (i := 1) rfl
  have c2 := B.cell_some (i := 2) rfl
  have c3 := B.cell_some (i := 3) rfl
  rw [results_cell_one h, hp]
  clear h hp B
  go_simp
set_option maxRecDepth 100000 in
set_option maxHeartbeats 4000000 in
theorem psectors_any {w : World} (id : Nat) (h : id ≤ 1023) :
    Calls Try.prog 42 #[.int .i64 (id : Nat)] w fun e w' => e = .returned (.agg (fourI (2 + 4 * id)).toArray) ∧ Below w.heap.size w w' := by
  have e1 : IntKind.i64.wrap ((id : Int) * 4) = (id : Int) * 4 := IntWalk.i64_in _ (by omega)
  have e2 : IntKind.i64.wrap (2 + (id : Int) * 4) = 2 + (id : Int) * 4 := IntWalk.i64_in _ (by omega)
  have Z : ∀ i : Nat, i ≤ 3 → IntKind.i64.wrap (2 + (id : Int) * 4 + (i : Int)) = 2 + (id : Int) * 4 + (i : Int) := fun i hi => IntWalk.i64_in _ (by omega)
  have y0 := Z 0 (by omega)
  have y1 := Z 1 (by omega)
  have y2 := Z 2 (by omega)
  have y3 := Z 3 (by omega)
  clear Z
  have q0 : Value.int .i64 (2 + (id : Int) * 4) = .int .i64 ((2 + 4 * id : Nat) : Int) := by congr 1; omega
  have q1 : Value.int .i64 (2 + (id : Int) * 4 + 1) = .int .i64 (((2 + 4 * id : Nat) : Int) + 1) := by congr 1; omega
  have q2 : Value.int .i64 (2 + (id : Int) * 4 + 2) = .int .i64 (((2 + 4 * id : Nat) : Int) + 2) := by congr 1; omega
  have q3 : Value.int .i64 (2 + (id : Int) * 4 + 3) = .int .i64 (((2 + 4 * id : Nat) : Int) + 3) := by congr 1; omega
  have Q := Lib.hid (And.intro q0 (And.intro q1 (And.intro q2 q3)))
  clear q0 q1 q2 q3
  have B0 := Lib.hid ((Blk.new w 75 #[.int .i64 0, .int .i64 0, .int .i64 0, .int .i64 0]).alloc (.cells #[.int .i64 0, .int .i64 0, .int .i64 0, .int .i64 0] 75))
  have C0 := Blk.new (w.alloc (.cells #[.int .i64 0, .int .i64 0, .int .i64 0, .int .i64 0] 75)) 75 #[.int .i64 0, .int .i64 0, .int .i64 0, .int .i64 0]
  rw [show (w.alloc (.cells #[.int .i64 0, .int .i64 0, .int .i64 0, .int .i64 0] 75)).heap.size = w.heap.size + 1 from by simp] at C0
  have C0 := Lib.hid C0
  have O0 := Lib.hid (belowAlloc (belowAlloc (Below.refl w.heap.size w) (.cells #[.int .i64 0, .int .i64 0, .int .i64 0, .int .i64 0] 75)) (.cells #[.int .i64 0, .int .i64 0, .int .i64 0, .int .i64 0] 75))
  go_enter Try.func42, Try.ntmps42
  go_wp2_with fail
  go_loopw [5] (fun iv wr => ∃ i : Nat, i ≤ 4 ∧ iv = .int .i64 i ∧ Hid (Blk wr (w.heap.size + 1) 75 (fourTo (2 + 4 * id) i).toArray) ∧ Hid (Blk wr w.heap.size 75 #[.int .i64 0, .int .i64 0, .int .i64 0, .int .i64 0]) ∧ Hid (Below w.heap.size w wr)) (fun iv _ => 4 - (intOf iv).toNat)
  case atStart => exact ⟨0, by omega, rfl, C0, B0, O0⟩
  case round =>
    obtain ⟨i, hi, rfl, C, B, O⟩ := hrel
    have ii : i = 0 ∨ i = 1 ∨ i = 2 ∨ i = 3 ∨ i = 4 := by omega
    have z0 := C.out.frozen 0 (by rcases ii with rfl | rfl | rfl | rfl | rfl <;> simp [fourTo, fourI])
    have z1 := C.out.frozen 1 (by rcases ii with rfl | rfl | rfl | rfl | rfl <;> simp [fourTo, fourI])
    have z2 := C.out.frozen 2 (by rcases ii with rfl | rfl | rfl | rfl | rfl <;> simp [fourTo, fourI])
    have z3 := C.out.frozen 3 (by rcases ii with rfl | rfl | rfl | rfl | rfl <;> simp [fourTo, fourI])
    rcases ii with rfl | rfl | rfl | rfl | rfl
    · have c0 := C.out.cell_some (i := 0) (v := .int .i64 0) rfl
      have C2 := Lib.hid (show Blk (wr.setCell ⟨w.heap.size + 1, 0, none⟩ (.int .i64 (2 + (id : Int) * 4))) (w.heap.size + 1) 75 (fourTo (2 + 4 * id) 1).toArray from by
        have h := C.out.set_ 0 (.int .i64 (2 + (id : Int) * 4))
        rw [Q.out.1] at h ⊢
        exact h)
      have B2 := Lib.hid (B.out.far (p := ⟨w.heap.size + 1, 0, none⟩) (by simp) (.int .i64 (2 + (id : Int) * 4)))
      have O2 := Lib.hid (O.out.setCell (p := ⟨w.heap.size + 1, 0, none⟩) (by simp) (.int .i64 (2 + (id : Int) * 4)))
      go_wp2_with fail
      go_roundw
      case rel => exact ⟨1, by omega, by first | rfl | simp, C2, B2, O2⟩
      case measure => first | decide | simp [intOf]
    · have c0 := C.out.cell_some (i := 1) (v := .int .i64 0) rfl
      have C2 := Lib.hid (show Blk (wr.setCell ⟨w.heap.size + 1, 1, none⟩ (.int .i64 (2 + (id : Int) * 4 + 1))) (w.heap.size + 1) 75 (fourTo (2 + 4 * id) 2).toArray from by
        have h := C.out.set_ 1 (.int .i64 (2 + (id : Int) * 4 + 1))
        rw [Q.out.2.1] at h ⊢
        exact h)
      have B2 := Lib.hid (B.out.far (p := ⟨w.heap.size + 1, 1, none⟩) (by simp) (.int .i64 (2 + (id : Int) * 4 + 1)))
      have O2 := Lib.hid (O.out.setCell (p := ⟨w.heap.size + 1, 1, none⟩) (by simp) (.int .i64 (2 + (id : Int) * 4 + 1)))
      go_wp2_with fail
      go_roundw
      case rel => exact ⟨2, by omega, by first | rfl | simp, C2, B2, O2⟩
      case measure => first | decide | simp [intOf]
    · have c0 := C.out.cell_some (i := 2) (v := .int .i64 0) rfl
      have C2 := Lib.hid (show Blk (wr.setCell ⟨w.heap.size + 1, 2, none⟩ (.int .i64 (2 + (id : Int) * 4 + 2))) (w.heap.size + 1) 75 (fourTo (2 + 4 * id) 3).toArray from by
        have h := C.out.set_ 2 (.int .i64 (2 + (id : Int) * 4 + 2))
        rw [Q.out.2.2.1] at h ⊢
        exact h)
      have B2 := Lib.hid (B.out.far (p := ⟨w.heap.size + 1, 2, none⟩) (by simp) (.int .i64 (2 + (id : Int) * 4 + 2)))
      have O2 := Lib.hid (O.out.setCell (p := ⟨w.heap.size + 1, 2, none⟩) (by simp) (.int .i64 (2 + (id : Int) * 4 + 2)))
      go_wp2_with fail
      go_roundw
      case rel => exact ⟨3, by omega, by first | rfl | simp, C2, B2, O2⟩
      case measure => first | decide | simp [intOf]
    · have c0 := C.out.cell_some (i := 3) (v := .int .i64 0) rfl
      have C2 := Lib.hid (show Blk (wr.setCell ⟨w.heap.size + 1, 3, none⟩ (.int .i64 (2 + (id : Int) * 4 + 3))) (w.heap.size + 1) 75 (fourTo (2 + 4 * id) 4).toArray from by
        have h := C.out.set_ 3 (.int .i64 (2 + (id : Int) * 4 + 3))
        rw [Q.out.2.2.2] at h ⊢
        exact h)
      have B2 := Lib.hid (B.out.far (p := ⟨w.heap.size + 1, 3, none⟩) (by simp) (.int .i64 (2 + (id : Int) * 4 + 3)))
      have O2 := Lib.hid (O.out.setCell (p := ⟨w.heap.size + 1, 3, none⟩) (by simp) (.int .i64 (2 + (id : Int) * 4 + 3)))
      go_wp2_with fail
      go_roundw
      case rel => exact ⟨4, by omega, by first | rfl | simp, C2, B2, O2⟩
      case measure => first | decide | simp [intOf]
    · have c0 := C.out.cell_some (i := 0) rfl
      have c1 := C.out.cell_some (i := 1) rfl
      have c2 := C.out.cell_some (i := 2) rfl
      have c3 := C.out.cell_some (i := 3) rfl
      have b0 := B.out.cell_some (i := 0) rfl
      have b1 := B.out.cell_some (i := 1) rfl
      have b2 := B.out.cell_some (i := 2) rfl
      have b3 := B.out.cell_some (i := 3) rfl
      have x0 := B.out.frozen 0 (by simp)
      have x1 := B.out.frozen 1 (by simp)
      have x2 := B.out.frozen 2 (by simp)
      have x3 := B.out.frozen 3 (by simp)
      have ZB := Lib.hid ((((B.out.set_ 0 (.int .i64 ((2 + 4 * id : Nat) : Int))).set_ 1 (.int .i64 (((2 + 4 * id : Nat) : Int) + 1))).set_ 2 (.int .i64 (((2 + 4 * id : Nat) : Int) + 2))).set_ 3 (.int .i64 (((2 + 4 * id : Nat) : Int) + 3)))
      have ZO := Lib.hid ((((O.out.setCell (p := ⟨w.heap.size, 0, none⟩) (Nat.le_refl _) (.int .i64 ((2 + 4 * id : Nat) : Int))).setCell (p := ⟨w.heap.size, 1, none⟩) (Nat.le_refl _) (.int .i64 (((2 + 4 * id : Nat) : Int) + 1))).setCell (p := ⟨w.heap.size, 2, none⟩) (Nat.le_refl _) (.int .i64 (((2 + 4 * id : Nat) : Int) + 2))).setCell (p := ⟨w.heap.size, 3, none⟩) (Nat.le_refl _) (.int .i64 (((2 + 4 * id : Nat) : Int) + 3)))
      simp only [fourTo, fourI, Nat.sub_self, List.replicate_zero, List.append_nil, List.take_of_length_le, List.length_cons, List.length_nil, Nat.le_refl, List.getElem_cons_zero, List.getElem_cons_succ, List.getElem_toArray] at c0 c1 c2 c3
      generalize hKK : ((2 + 4 * id : Nat) : Int) = K at *
      have HKK := Lib.hid hKK
      clear hKK
      go_wp2_with fail
      exact bodyPost_ret (ret_four rfl rfl ZB.out) rfl ⟨by unfold fourI; rw [HKK.out], ZO.out⟩
end Go.Proofs.Ytmofbgcanehdoaa.Pg
