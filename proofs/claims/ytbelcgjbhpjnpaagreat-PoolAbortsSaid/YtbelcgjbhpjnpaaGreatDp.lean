/- layer 15's do, walked: over any contracts of the pool's and the document's calls. -/
import Derived.Test.YtbelcgjbhpjnpaaGreatQj
set_option linter.all false
set_option linter.unusedVariables false
set_option linter.unusedSimpArgs false
namespace Go.Proofs.YtbelcgjbhpjnpaaGreat.Sh
open Go.RowKit Pk Dk Pg
attribute [local go_sem ↓] Go.wp_at_zero Go.wp_at_succ
/-- some Boolean came back -/
def RB (e : Ending) : Prop := ∃ β : Bool, e = .returned (.bool β)
theorem RB.mk (β : Bool) : RB (.returned (.bool β)) := ⟨β, rfl⟩
/-- what stays so while nothing is written -/
def Stays15 (P : World → Prop) : Prop := ∀ W W', P W → Below W.heap.size W W' → P W'
def ActAt15 (W : World) (q : Nat) (kd l : Int) (s : ByteArray) : Prop := Blk W q 80 #[.int .i64 kd, .int .i64 l, .string s]
/-- the world in which do works -/
def doW15 (w : World) (kd l : Int) (s : ByteArray) : World := w.alloc (.cells #[.int .i64 kd, .int .i64 l, .string s] 80)
theorem doW15_act (w : World) (kd l : Int) (s : ByteArray) : ActAt15 (doW15 w kd l s) w.heap.size kd l s := Blk.new w 80 #[.int .i64 kd, .int .i64 l, .string s]
theorem doW15_below (w : World) (kd l : Int) (s : ByteArray) : Below w.heap.size w (doW15 w kd l s) := Rt.belowAlloc (Below.refl _ _) _
set_option maxRecDepth 100000 in
set_option maxHeartbeats 4000000 in
theorem do15_new {w : World} {pq xq rs : Nat} (kd l : Int) (s : ByteArray) (hk : kd = 0 ∨ kd = 1) {P1 P2 : World → Prop} (s1 : Stays15 P1) (s2 : Stays15 P2) (HB1 : ∀ W, P1 W → ActAt15 W w.heap.size kd l s ∧ W.cell? ⟨xq, 0, none⟩ = some (.pointer (some ⟨rs, 0, none⟩))) (HB2 : ∀ W, P2 W → ActAt15 W w.heap.size kd l s ∧ W.cell? ⟨xq, 0, none⟩ = some (.pointer (some ⟨rs, 0, none⟩))) (HX : ∀ W, Below (doW15 w kd l s).heap.size (doW15 w kd l s) W → W.cell? ⟨xq, 0, none⟩ = some (.pointer (some ⟨rs, 0, none⟩))) {u1 u2 e1 e2 : Int}
  (KP : ∀ W, Below (doW15 w kd l s).heap.size (doW15 w kd l s) W → Calls Tryz.prog 53 #[pp pq, .string s] W fun e W' => e = .returned (.tuple #[.int .i64 u1, .int .i64 e1]) ∧ P1 W')
  (KR : ∀ W, P1 W → Calls Tryz.prog 67 #[.pointer (some ⟨rs, 0, none⟩), .string s] W fun e W' => e = .returned (.tuple #[.int .i64 u2, .int .i64 e2]) ∧ P2 W') :
  Calls Tryz.prog 42 #[pp pq, rp xq, .agg #[.int .i64 kd, .int .i64 l, .string s]] w fun e W => RB e ∧ P2 W := by
 have KP := Lib.hid KP
 have KR := Lib.hid KR
 have HB1 := Lib.hid HB1
 have HB2 := Lib.hid HB2
 have HX := Lib.hid HX
 have S1 := Lib.hid s1
 have S2 := Lib.hid s2
 clear s1 s2
 have B0 := Lib.hid (doW15_act w kd l s)
 have OB := Lib.hid (Below.refl (doW15 w kd l s).heap.size (doW15 w kd l s))
 rcases hk with rfl | rfl
 ·unfold pp rp at *
  go_enter Tryz.func42, Tryz.ntmps42
  go_wp2_with fail
  rw [show w.alloc (.cells #[.int .i64 0, .int .i64 l, .string s] 80) = doW15 w 0 l s from rfl]
  obtain ⟨w1, hw1⟩ : ∃ w1, doW15 w 0 l s = w1 := ⟨_, rfl⟩
  rw [hw1] at B0 OB KP HX ⊢
  clear hw1
  have c0 := B0.out.cell_some (i := 0) rfl
  have c1 := B0.out.cell_some (i := 1) rfl
  have c2 := B0.out.cell_some (i := 2) rfl
  go_wp2_with fail
  refine (KP.out _ OB.out).mono ?_
  rintro e w5 ⟨rfl, p5⟩
  have P5 := Lib.hid p5
  clear p5
  have D5 := Lib.hid (HB1.out _ P5.out)
  clear c0 c1 c2
  have a1 := D5.out.1.cell_some (i := 1) rfl
  have a2 := D5.out.1.cell_some (i := 2) rfl
  go_wp2_with fail
  have Q5 := Lib.hid (S1.out _ _ P5.out ((Below.refl _ _).drew))
  have S0 := Lib.hid (show (fun W' => W'.cell? ⟨xq, 0, none⟩ = some (.pointer (some ⟨rs, 0, none⟩)) ∧ W'.cell? ⟨w.heap.size, 2, none⟩ = some (.string s)) w5.drew from ⟨(HB1.out _ Q5.out).2, (HB1.out _ Q5.out).1.cell_some (i := 2) rfl⟩)
  clear a1 a2
  refine wp_region_held_drew (S := fun W' => W'.cell? ⟨xq, 0, none⟩ = some (.pointer (some ⟨rs, 0, none⟩)) ∧ W'.cell? ⟨w.heap.size, 2, none⟩ = some (.string s)) (by kernel_rfl) (S0.out) (fun hHeld => ?_)
  refine tkf (i := 0) (oi := ⟨some 32, _, _, _, _, _⟩) (v := ?_) rfl (by kernel_rfl) (fun _ _ _ h => h) (by assumption) ?_ ?_
  rotate_left
  ·(intro w hS; (try dsimp only at hS); go_simp; try with_reducible rfl)
  try simp only [Act.put, pa, pb, pc]
  refine tkf (i := 1) (oi := ⟨some 33, _, _, _, _, _⟩) (v := ?_) rfl (by kernel_rfl) (fun _ _ _ h => h) (by assumption) ?_ ?_
  rotate_left
  ·(intro w hS; (try dsimp only at hS); go_simp; try with_reducible rfl)
  try simp only [Act.put, pa, pb, pc]
  refine tkf (i := 2) (oi := ⟨some 34, _, _, _, _, _⟩) (v := ?_) rfl (by kernel_rfl) (fun _ _ _ h => h) (by assumption) ?_ ?_
  rotate_left
  ·(intro w hS; (try dsimp only at hS); go_simp; try with_reducible rfl)
  try simp only [Act.put, pa, pb, pc]
  refine tkf (i := 3) (oi := ⟨some 35, _, _, _, _, _⟩) (v := ?_) rfl (by kernel_rfl) (fun _ _ _ h => h) (by assumption) ?_ ?_
  rotate_left
  ·(intro w hS; (try dsimp only at hS); go_simp; try with_reducible rfl)
  try simp only [Act.put, pa, pb, pc]
  refine tkf (i := 4) (oi := ⟨some 36, _, _, _, _, _⟩) (v := ?_) rfl (by kernel_rfl) (fun _ _ _ h => h) (by assumption) ?_ ?_
  rotate_left
  ·(intro w hS; (try dsimp only at hS); go_simp; try with_reducible rfl)
  try simp only [Act.put, pa, pb, pc]
  refine tkf (i := 5) (oi := ⟨some 37, _, _, _, _, _⟩) (v := ?_) rfl (by kernel_rfl) (fun _ _ _ h => h) (by assumption) ?_ ?_
  rotate_left
  ·(intro w hS; (try dsimp only at hS); go_simp; try with_reducible rfl)
  try simp only [Act.put, pa, pb, pc]
  refine wpAnyH_ready (rs := [6]) (by kernel_rfl) (by simp) ?_
  refine AllReadyH.cons (o := ⟨some 38, _, _, _, _, _⟩) rfl (fun K hK => ?_) AllReadyH.nil
  go_simp
  go_at_call 67
  refine (KR.out _ Q5.out).mono ?_
  rintro e w6 ⟨rfl, p6⟩
  have P6 := Lib.hid p6
  clear p6
  have D6 := Lib.hid (HB2.out _ P6.out)
  have b1 := D6.out.1.cell_some (i := 1) rfl
  have b2 := D6.out.1.cell_some (i := 2) rfl
  go_simp
  refine hK.out _ _ (⟨D6.out.2, b2⟩) (fun hHeld => ?_)
  try simp only [Act.put, pa, pb, pc]
  refine tkf (i := 7) (oi := ⟨some 31, _, _, _, _, _⟩) (v := ?_) rfl (by kernel_rfl) (fun _ _ _ h => h) (by assumption) ?_ ?_
  rotate_left
  ·(intro w hS; (try dsimp only at hS); go_simp; try with_reducible rfl)
  try simp only [Act.put, pa, pb, pc]
  refine tkf (i := 8) (oi := ⟨some 39, _, _, _, _, _⟩) (v := ?_) rfl (by kernel_rfl) (fun _ _ _ h => h) (by assumption) ?_ ?_
  rotate_left
  ·(intro w hS; (try dsimp only at hS); go_simp; try with_reducible rfl)
  try simp only [Act.put, pa, pb, pc]
  refine tkf (i := 9) (oi := ⟨some 40, _, _, _, _, _⟩) (v := ?_) rfl (by kernel_rfl) (fun _ _ _ h => h) (by assumption) ?_ ?_
  rotate_left
  ·(intro w hS; (try dsimp only at hS); go_simp; try with_reducible rfl)
  try simp only [Act.put, pa, pb, pc]
  refine tkf (i := 10) (oi := ⟨some 9, _, _, _, _, _⟩) (v := ?_) rfl (by kernel_rfl) (fun _ _ _ h => h) (by assumption) ?_ ?_
  rotate_left
  ·(intro w hS; (try dsimp only at hS); go_simp; try with_reducible rfl)
  try simp only [Act.put, pa, pb, pc]
  refine tkf (i := 11) (oi := ⟨some 10, _, _, _, _, _⟩) (v := ?_) rfl (by kernel_rfl) (fun _ _ _ h => h) (by assumption) ?_ ?_
  rotate_left
  ·(intro w hS; (try dsimp only at hS); go_simp; try with_reducible rfl)
  try simp only [Act.put, pa, pb, pc]
  refine wpAnyH_done (by kernel_rfl) ?_ _
  obtain ⟨t, ht⟩ : ∃ t : Bool, (u1 == u2) = t := ⟨_, rfl⟩
  cases t
  ·go_wp2_with fail
   go_ret
   exact ⟨RB.mk _, P6.out⟩
  ·go_wp2_with fail
   go_ret
   exact ⟨RB.mk _, P6.out⟩
 ·unfold pp rp at *
  go_enter Tryz.func42, Tryz.ntmps42
  go_wp2_with fail
  rw [show w.alloc (.cells #[.int .i64 1, .int .i64 l, .string s] 80) = doW15 w 1 l s from rfl]
  obtain ⟨w1, hw1⟩ : ∃ w1, doW15 w 1 l s = w1 := ⟨_, rfl⟩
  rw [hw1] at B0 OB KP HX ⊢
  clear hw1
  have c0 := B0.out.cell_some (i := 0) rfl
  have c1 := B0.out.cell_some (i := 1) rfl
  have c2 := B0.out.cell_some (i := 2) rfl
  go_wp2_with fail
  refine (KP.out _ OB.out).mono ?_
  rintro e w5 ⟨rfl, p5⟩
  have P5 := Lib.hid p5
  clear p5
  have D5 := Lib.hid (HB1.out _ P5.out)
  clear c0 c1 c2
  have a1 := D5.out.1.cell_some (i := 1) rfl
  have a2 := D5.out.1.cell_some (i := 2) rfl
  go_wp2_with fail
  have Q5 := Lib.hid (S1.out _ _ P5.out ((Below.refl _ _).drew))
  have S0 := Lib.hid (show (fun W' => W'.cell? ⟨xq, 0, none⟩ = some (.pointer (some ⟨rs, 0, none⟩)) ∧ W'.cell? ⟨w.heap.size, 2, none⟩ = some (.string s)) w5.drew from ⟨(HB1.out _ Q5.out).2, (HB1.out _ Q5.out).1.cell_some (i := 2) rfl⟩)
  clear a1 a2
  refine wp_region_held_drew (S := fun W' => W'.cell? ⟨xq, 0, none⟩ = some (.pointer (some ⟨rs, 0, none⟩)) ∧ W'.cell? ⟨w.heap.size, 2, none⟩ = some (.string s)) (by kernel_rfl) (S0.out) (fun hHeld => ?_)
  refine tkf (i := 0) (oi := ⟨some 32, _, _, _, _, _⟩) (v := ?_) rfl (by kernel_rfl) (fun _ _ _ h => h) (by assumption) ?_ ?_
  rotate_left
  ·(intro w hS; (try dsimp only at hS); go_simp; try with_reducible rfl)
  try simp only [Act.put, pa, pb, pc]
  refine tkf (i := 1) (oi := ⟨some 33, _, _, _, _, _⟩) (v := ?_) rfl (by kernel_rfl) (fun _ _ _ h => h) (by assumption) ?_ ?_
  rotate_left
  ·(intro w hS; (try dsimp only at hS); go_simp; try with_reducible rfl)
  try simp only [Act.put, pa, pb, pc]
  refine tkf (i := 2) (oi := ⟨some 34, _, _, _, _, _⟩) (v := ?_) rfl (by kernel_rfl) (fun _ _ _ h => h) (by assumption) ?_ ?_
  rotate_left
  ·(intro w hS; (try dsimp only at hS); go_simp; try with_reducible rfl)
  try simp only [Act.put, pa, pb, pc]
  refine tkf (i := 3) (oi := ⟨some 35, _, _, _, _, _⟩) (v := ?_) rfl (by kernel_rfl) (fun _ _ _ h => h) (by assumption) ?_ ?_
  rotate_left
  ·(intro w hS; (try dsimp only at hS); go_simp; try with_reducible rfl)
  try simp only [Act.put, pa, pb, pc]
  refine tkf (i := 4) (oi := ⟨some 36, _, _, _, _, _⟩) (v := ?_) rfl (by kernel_rfl) (fun _ _ _ h => h) (by assumption) ?_ ?_
  rotate_left
  ·(intro w hS; (try dsimp only at hS); go_simp; try with_reducible rfl)
  try simp only [Act.put, pa, pb, pc]
  refine tkf (i := 5) (oi := ⟨some 37, _, _, _, _, _⟩) (v := ?_) rfl (by kernel_rfl) (fun _ _ _ h => h) (by assumption) ?_ ?_
  rotate_left
  ·(intro w hS; (try dsimp only at hS); go_simp; try with_reducible rfl)
  try simp only [Act.put, pa, pb, pc]
  refine wpAnyH_ready (rs := [6]) (by kernel_rfl) (by simp) ?_
  refine AllReadyH.cons (o := ⟨some 38, _, _, _, _, _⟩) rfl (fun K hK => ?_) AllReadyH.nil
  go_simp
  go_at_call 67
  refine (KR.out _ Q5.out).mono ?_
  rintro e w6 ⟨rfl, p6⟩
  have P6 := Lib.hid p6
  clear p6
  have D6 := Lib.hid (HB2.out _ P6.out)
  have b1 := D6.out.1.cell_some (i := 1) rfl
  have b2 := D6.out.1.cell_some (i := 2) rfl
  go_simp
  refine hK.out _ _ (⟨D6.out.2, b2⟩) (fun hHeld => ?_)
  try simp only [Act.put, pa, pb, pc]
  refine tkf (i := 7) (oi := ⟨some 31, _, _, _, _, _⟩) (v := ?_) rfl (by kernel_rfl) (fun _ _ _ h => h) (by assumption) ?_ ?_
  rotate_left
  ·(intro w hS; (try dsimp only at hS); go_simp; try with_reducible rfl)
  try simp only [Act.put, pa, pb, pc]
  refine tkf (i := 8) (oi := ⟨some 39, _, _, _, _, _⟩) (v := ?_) rfl (by kernel_rfl) (fun _ _ _ h => h) (by assumption) ?_ ?_
  rotate_left
  ·(intro w hS; (try dsimp only at hS); go_simp; try with_reducible rfl)
  try simp only [Act.put, pa, pb, pc]
  refine tkf (i := 9) (oi := ⟨some 40, _, _, _, _, _⟩) (v := ?_) rfl (by kernel_rfl) (fun _ _ _ h => h) (by assumption) ?_ ?_
  rotate_left
  ·(intro w hS; (try dsimp only at hS); go_simp; try with_reducible rfl)
  try simp only [Act.put, pa, pb, pc]
  refine tkf (i := 10) (oi := ⟨some 9, _, _, _, _, _⟩) (v := ?_) rfl (by kernel_rfl) (fun _ _ _ h => h) (by assumption) ?_ ?_
  rotate_left
  ·(intro w hS; (try dsimp only at hS); go_simp; try with_reducible rfl)
  try simp only [Act.put, pa, pb, pc]
  refine tkf (i := 11) (oi := ⟨some 10, _, _, _, _, _⟩) (v := ?_) rfl (by kernel_rfl) (fun _ _ _ h => h) (by assumption) ?_ ?_
  rotate_left
  ·(intro w hS; (try dsimp only at hS); go_simp; try with_reducible rfl)
  try simp only [Act.put, pa, pb, pc]
  refine wpAnyH_done (by kernel_rfl) ?_ _
  obtain ⟨t, ht⟩ : ∃ t : Bool, (u1 == u2) = t := ⟨_, rfl⟩
  cases t
  ·go_wp2_with fail
   go_ret
   exact ⟨RB.mk _, P6.out⟩
  ·go_wp2_with fail
   go_ret
   exact ⟨RB.mk _, P6.out⟩
set_option maxRecDepth 100000 in
set_option maxHeartbeats 4000000 in
theorem do15_hold {w : World} {pq xq rs : Nat} (kd l : Int) (s : ByteArray) (hk : kd = 2) {P1 P2 : World → Prop} (s1 : Stays15 P1) (s2 : Stays15 P2) (HB1 : ∀ W, P1 W → ActAt15 W w.heap.size kd l s ∧ W.cell? ⟨xq, 0, none⟩ = some (.pointer (some ⟨rs, 0, none⟩))) (HB2 : ∀ W, P2 W → ActAt15 W w.heap.size kd l s ∧ W.cell? ⟨xq, 0, none⟩ = some (.pointer (some ⟨rs, 0, none⟩))) (HX : ∀ W, Below (doW15 w kd l s).heap.size (doW15 w kd l s) W → W.cell? ⟨xq, 0, none⟩ = some (.pointer (some ⟨rs, 0, none⟩))) {u1 u2 : ByteArray} {e1 e2 : Int}
  (KP : ∀ W, Below (doW15 w kd l s).heap.size (doW15 w kd l s) W → Calls Tryz.prog 52 #[pp pq, .int .i64 l] W fun e W' => e = .returned (.tuple #[.string u1, .int .i64 e1]) ∧ P1 W')
  (KR : ∀ W, P1 W → Calls Tryz.prog 112 #[rp xq, .int .i64 l] W fun e W' => e = .returned (.tuple #[.string u2, .int .i64 e2]) ∧ P2 W') :
  Calls Tryz.prog 42 #[pp pq, rp xq, .agg #[.int .i64 kd, .int .i64 l, .string s]] w fun e W => RB e ∧ P2 W := by
 have KP := Lib.hid KP
 have KR := Lib.hid KR
 have HB1 := Lib.hid HB1
 have HB2 := Lib.hid HB2
 have HX := Lib.hid HX
 have S1 := Lib.hid s1
 have S2 := Lib.hid s2
 clear s1 s2
 have B0 := Lib.hid (doW15_act w kd l s)
 have OB := Lib.hid (Below.refl (doW15 w kd l s).heap.size (doW15 w kd l s))
 subst hk
 unfold pp rp at *
 go_enter Tryz.func42, Tryz.ntmps42
 go_wp2_with fail
 rw [show w.alloc (.cells #[.int .i64 2, .int .i64 l, .string s] 80) = doW15 w 2 l s from rfl]
 obtain ⟨w1, hw1⟩ : ∃ w1, doW15 w 2 l s = w1 := ⟨_, rfl⟩
 rw [hw1] at B0 OB KP HX ⊢
 clear hw1
 have c0 := B0.out.cell_some (i := 0) rfl
 have c1 := B0.out.cell_some (i := 1) rfl
 have c2 := B0.out.cell_some (i := 2) rfl
 go_wp2_with fail
 refine (KP.out _ OB.out).mono ?_
 rintro e w5 ⟨rfl, p5⟩
 have P5 := Lib.hid p5
 clear p5
 have D5 := Lib.hid (HB1.out _ P5.out)
 clear c0 c1 c2
 have a1 := D5.out.1.cell_some (i := 1) rfl
 have a2 := D5.out.1.cell_some (i := 2) rfl
 go_wp2_with fail
 refine (KR.out _ P5.out).mono ?_
 rintro e w6 ⟨rfl, p6⟩
 have P6 := Lib.hid p6
 clear p6
 obtain ⟨t, ht⟩ : ∃ t : Bool, (u1.toList == u2.toList) = t := ⟨_, rfl⟩
 cases t
 ·go_wp2_with fail
  go_ret
  exact ⟨RB.mk _, P6.out⟩
 ·go_wp2_with fail
  go_ret
  exact ⟨RB.mk _, P6.out⟩
set_option maxRecDepth 100000 in
set_option maxHeartbeats 4000000 in
theorem do15_let {w : World} {pq xq rs : Nat} (kd l : Int) (s : ByteArray) (hk : kd = 3) {P1 P2 : World → Prop} (s1 : Stays15 P1) (s2 : Stays15 P2) (HB1 : ∀ W, P1 W → ActAt15 W w.heap.size kd l s ∧ W.cell? ⟨xq, 0, none⟩ = some (.pointer (some ⟨rs, 0, none⟩))) (HB2 : ∀ W, P2 W → ActAt15 W w.heap.size kd l s ∧ W.cell? ⟨xq, 0, none⟩ = some (.pointer (some ⟨rs, 0, none⟩))) (HX : ∀ W, Below (doW15 w kd l s).heap.size (doW15 w kd l s) W → W.cell? ⟨xq, 0, none⟩ = some (.pointer (some ⟨rs, 0, none⟩))) {e1 e2 : Int}
  (KP : ∀ W, Below (doW15 w kd l s).heap.size (doW15 w kd l s) W → Calls Tryz.prog 56 #[pp pq, .int .i64 l] W fun e W' => e = .returned (.int .i64 e1) ∧ P1 W')
  (KR : ∀ W, P1 W → Calls Tryz.prog 113 #[rp xq, .int .i64 l] W fun e W' => e = .returned (.int .i64 e2) ∧ P2 W') :
  Calls Tryz.prog 42 #[pp pq, rp xq, .agg #[.int .i64 kd, .int .i64 l, .string s]] w fun e W => RB e ∧ P2 W := by
 have KP := Lib.hid KP
 have KR := Lib.hid KR
 have HB1 := Lib.hid HB1
 have HB2 := Lib.hid HB2
 have HX := Lib.hid HX
 have S1 := Lib.hid s1
 have S2 := Lib.hid s2
 clear s1 s2
 have B0 := Lib.hid (doW15_act w kd l s)
 have OB := Lib.hid (Below.refl (doW15 w kd l s).heap.size (doW15 w kd l s))
 subst hk
 unfold pp rp at *
 go_enter Tryz.func42, Tryz.ntmps42
 go_wp2_with fail
 rw [show w.alloc (.cells #[.int .i64 3, .int .i64 l, .string s] 80) = doW15 w 3 l s from rfl]
 obtain ⟨w1, hw1⟩ : ∃ w1, doW15 w 3 l s = w1 := ⟨_, rfl⟩
 rw [hw1] at B0 OB KP HX ⊢
 clear hw1
 have c0 := B0.out.cell_some (i := 0) rfl
 have c1 := B0.out.cell_some (i := 1) rfl
 have c2 := B0.out.cell_some (i := 2) rfl
 go_wp2_with fail
 have OD := Lib.hid OB.out.drew
 clear c0
 have S0 := Lib.hid (show (fun W' => W'.cell? ⟨w.heap.size, 1, none⟩ = some (.int .i64 l) ∧ W'.cell? ⟨w.heap.size, 2, none⟩ = some (.string s)) w1.drew from ⟨(B0.out.drew).cell_some (i := 1) rfl, (B0.out.drew).cell_some (i := 2) rfl⟩)
 clear c1 c2
 refine wp_region_held_drew (S := fun W' => W'.cell? ⟨w.heap.size, 1, none⟩ = some (.int .i64 l) ∧ W'.cell? ⟨w.heap.size, 2, none⟩ = some (.string s)) (by kernel_rfl) (S0.out) (fun hHeld => ?_)
 refine tkf (i := 0) (oi := ⟨some 75, _, _, _, _, _⟩) (v := ?_) rfl (by kernel_rfl) (fun _ _ _ h => h) (by assumption) ?_ ?_
 rotate_left
 ·(intro w hS; (try dsimp only at hS); go_simp; try with_reducible rfl)
 try simp only [Act.put, pa, pb, pc]
 refine tkf (i := 1) (oi := ⟨some 76, _, _, _, _, _⟩) (v := ?_) rfl (by kernel_rfl) (fun _ _ _ h => h) (by assumption) ?_ ?_
 rotate_left
 ·(intro w hS; (try dsimp only at hS); go_simp; try with_reducible rfl)
 try simp only [Act.put, pa, pb, pc]
 refine tkf (i := 2) (oi := ⟨some 77, _, _, _, _, _⟩) (v := ?_) rfl (by kernel_rfl) (fun _ _ _ h => h) (by assumption) ?_ ?_
 rotate_left
 ·(intro w hS; (try dsimp only at hS); go_simp; try with_reducible rfl)
 try simp only [Act.put, pa, pb, pc]
 refine tkf (i := 4) (oi := ⟨some 79, _, _, _, _, _⟩) (v := ?_) rfl (by kernel_rfl) (fun _ _ _ h => h) (by assumption) ?_ ?_
 rotate_left
 ·(intro w hS; (try dsimp only at hS); go_simp; try with_reducible rfl)
 try simp only [Act.put, pa, pb, pc]
 refine tkf (i := 5) (oi := ⟨some 80, _, _, _, _, _⟩) (v := ?_) rfl (by kernel_rfl) (fun _ _ _ h => h) (by assumption) ?_ ?_
 rotate_left
 ·(intro w hS; (try dsimp only at hS); go_simp; try with_reducible rfl)
 try simp only [Act.put, pa, pb, pc]
 refine tkf (i := 6) (oi := ⟨some 81, _, _, _, _, _⟩) (v := ?_) rfl (by kernel_rfl) (fun _ _ _ h => h) (by assumption) ?_ ?_
 rotate_left
 ·(intro w hS; (try dsimp only at hS); go_simp; try with_reducible rfl)
 try simp only [Act.put, pa, pb, pc]
 refine wpAnyH_ready (rs := [3]) (by kernel_rfl) (by simp) ?_
 refine AllReadyH.cons (o := ⟨some 78, _, _, _, _, _⟩) rfl (fun K hK => ?_) AllReadyH.nil
 go_simp
 go_at_call 56
 refine (KP.out _ OD.out).mono ?_
 rintro e w5 ⟨rfl, p5⟩
 have P5 := Lib.hid p5
 clear p5
 have D5 := Lib.hid (HB1.out _ P5.out)
 have a1 := D5.out.1.cell_some (i := 1) rfl
 have a2 := D5.out.1.cell_some (i := 2) rfl
 go_simp
 refine hK.out _ _ (⟨a1, a2⟩) (fun hHeld => ?_)
 try simp only [Act.put, pa, pb, pc]
 refine wpAnyH_ready (rs := [7]) (by kernel_rfl) (by simp) ?_
 refine AllReadyH.cons (o := ⟨some 82, _, _, _, _, _⟩) rfl (fun K hK => ?_) AllReadyH.nil
 go_simp
 go_at_call 113
 refine (KR.out _ P5.out).mono ?_
 rintro e w6 ⟨rfl, p6⟩
 have P6 := Lib.hid p6
 clear p6
 have D6 := Lib.hid (HB2.out _ P6.out)
 have b1 := D6.out.1.cell_some (i := 1) rfl
 have b2 := D6.out.1.cell_some (i := 2) rfl
 go_simp
 refine hK.out _ _ (⟨b1, b2⟩) (fun hHeld => ?_)
 try simp only [Act.put, pa, pb, pc]
 refine tkf (i := 8) (oi := ⟨some 83, _, _, _, _, _⟩) (v := ?_) rfl (by kernel_rfl) (fun _ _ _ h => h) (by assumption) ?_ ?_
 rotate_left
 ·(intro w hS; (try dsimp only at hS); go_simp; try with_reducible rfl)
 try simp only [Act.put, pa, pb, pc]
 refine tkf (i := 9) (oi := ⟨some 6, _, _, _, _, _⟩) (v := ?_) rfl (by kernel_rfl) (fun _ _ _ h => h) (by assumption) ?_ ?_
 rotate_left
 ·(intro w hS; (try dsimp only at hS); go_simp; try with_reducible rfl)
 try simp only [Act.put, pa, pb, pc]
 refine wpAnyH_done (by kernel_rfl) ?_ _
 go_wp2_with fail
 go_ret
 exact ⟨RB.mk _, P6.out⟩
set_option maxRecDepth 100000 in
set_option maxHeartbeats 4000000 in
theorem do15_set {w : World} {pq xq rs : Nat} (kd l : Int) (s : ByteArray) (hk : kd = 4) {P1 P2 : World → Prop} (s1 : Stays15 P1) (s2 : Stays15 P2) (HB1 : ∀ W, P1 W → ActAt15 W w.heap.size kd l s ∧ W.cell? ⟨xq, 0, none⟩ = some (.pointer (some ⟨rs, 0, none⟩))) (HB2 : ∀ W, P2 W → ActAt15 W w.heap.size kd l s ∧ W.cell? ⟨xq, 0, none⟩ = some (.pointer (some ⟨rs, 0, none⟩))) (HX : ∀ W, Below (doW15 w kd l s).heap.size (doW15 w kd l s) W → W.cell? ⟨xq, 0, none⟩ = some (.pointer (some ⟨rs, 0, none⟩))) {e1 e2 : Int}
  (KP : ∀ W, Below (doW15 w kd l s).heap.size (doW15 w kd l s) W → Calls Tryz.prog 57 #[pp pq, .int .i64 l, .string s] W fun e W' => e = .returned (.int .i64 e1) ∧ P1 W')
  (KR : ∀ W, P1 W → Calls Tryz.prog 114 #[rp xq, .int .i64 l, .string s] W fun e W' => e = .returned (.int .i64 e2) ∧ P2 W') :
  Calls Tryz.prog 42 #[pp pq, rp xq, .agg #[.int .i64 kd, .int .i64 l, .string s]] w fun e W => RB e ∧ P2 W := by
 have KP := Lib.hid KP
 have KR := Lib.hid KR
 have HB1 := Lib.hid HB1
 have HB2 := Lib.hid HB2
 have HX := Lib.hid HX
 have S1 := Lib.hid s1
 have S2 := Lib.hid s2
 clear s1 s2
 have B0 := Lib.hid (doW15_act w kd l s)
 have OB := Lib.hid (Below.refl (doW15 w kd l s).heap.size (doW15 w kd l s))
 subst hk
 unfold pp rp at *
 go_enter Tryz.func42, Tryz.ntmps42
 go_wp2_with fail
 rw [show w.alloc (.cells #[.int .i64 4, .int .i64 l, .string s] 80) = doW15 w 4 l s from rfl]
 obtain ⟨w1, hw1⟩ : ∃ w1, doW15 w 4 l s = w1 := ⟨_, rfl⟩
 rw [hw1] at B0 OB KP HX ⊢
 clear hw1
 have c0 := B0.out.cell_some (i := 0) rfl
 have c1 := B0.out.cell_some (i := 1) rfl
 have c2 := B0.out.cell_some (i := 2) rfl
 go_wp2_with fail
 have OD := Lib.hid OB.out.drew
 clear c0
 have S0 := Lib.hid (show (fun W' => W'.cell? ⟨w.heap.size, 1, none⟩ = some (.int .i64 l) ∧ W'.cell? ⟨w.heap.size, 2, none⟩ = some (.string s)) w1.drew from ⟨(B0.out.drew).cell_some (i := 1) rfl, (B0.out.drew).cell_some (i := 2) rfl⟩)
 clear c1 c2
 refine wp_region_held_drew (S := fun W' => W'.cell? ⟨w.heap.size, 1, none⟩ = some (.int .i64 l) ∧ W'.cell? ⟨w.heap.size, 2, none⟩ = some (.string s)) (by kernel_rfl) (S0.out) (fun hHeld => ?_)
 refine tkf (i := 0) (oi := ⟨some 86, _, _, _, _, _⟩) (v := ?_) rfl (by kernel_rfl) (fun _ _ _ h => h) (by assumption) ?_ ?_
 rotate_left
 ·(intro w hS; (try dsimp only at hS); go_simp; try with_reducible rfl)
 try simp only [Act.put, pa, pb, pc]
 refine tkf (i := 1) (oi := ⟨some 87, _, _, _, _, _⟩) (v := ?_) rfl (by kernel_rfl) (fun _ _ _ h => h) (by assumption) ?_ ?_
 rotate_left
 ·(intro w hS; (try dsimp only at hS); go_simp; try with_reducible rfl)
 try simp only [Act.put, pa, pb, pc]
 refine tkf (i := 2) (oi := ⟨some 88, _, _, _, _, _⟩) (v := ?_) rfl (by kernel_rfl) (fun _ _ _ h => h) (by assumption) ?_ ?_
 rotate_left
 ·(intro w hS; (try dsimp only at hS); go_simp; try with_reducible rfl)
 try simp only [Act.put, pa, pb, pc]
 refine tkf (i := 3) (oi := ⟨some 89, _, _, _, _, _⟩) (v := ?_) rfl (by kernel_rfl) (fun _ _ _ h => h) (by assumption) ?_ ?_
 rotate_left
 ·(intro w hS; (try dsimp only at hS); go_simp; try with_reducible rfl)
 try simp only [Act.put, pa, pb, pc]
 refine tkf (i := 4) (oi := ⟨some 90, _, _, _, _, _⟩) (v := ?_) rfl (by kernel_rfl) (fun _ _ _ h => h) (by assumption) ?_ ?_
 rotate_left
 ·(intro w hS; (try dsimp only at hS); go_simp; try with_reducible rfl)
 try simp only [Act.put, pa, pb, pc]
 refine tkf (i := 6) (oi := ⟨some 92, _, _, _, _, _⟩) (v := ?_) rfl (by kernel_rfl) (fun _ _ _ h => h) (by assumption) ?_ ?_
 rotate_left
 ·(intro w hS; (try dsimp only at hS); go_simp; try with_reducible rfl)
 try simp only [Act.put, pa, pb, pc]
 refine tkf (i := 7) (oi := ⟨some 93, _, _, _, _, _⟩) (v := ?_) rfl (by kernel_rfl) (fun _ _ _ h => h) (by assumption) ?_ ?_
 rotate_left
 ·(intro w hS; (try dsimp only at hS); go_simp; try with_reducible rfl)
 try simp only [Act.put, pa, pb, pc]
 refine tkf (i := 8) (oi := ⟨some 94, _, _, _, _, _⟩) (v := ?_) rfl (by kernel_rfl) (fun _ _ _ h => h) (by assumption) ?_ ?_
 rotate_left
 ·(intro w hS; (try dsimp only at hS); go_simp; try with_reducible rfl)
 try simp only [Act.put, pa, pb, pc]
 refine tkf (i := 9) (oi := ⟨some 95, _, _, _, _, _⟩) (v := ?_) rfl (by kernel_rfl) (fun _ _ _ h => h) (by assumption) ?_ ?_
 rotate_left
 ·(intro w hS; (try dsimp only at hS); go_simp; try with_reducible rfl)
 try simp only [Act.put, pa, pb, pc]
 refine tkf (i := 10) (oi := ⟨some 96, _, _, _, _, _⟩) (v := ?_) rfl (by kernel_rfl) (fun _ _ _ h => h) (by assumption) ?_ ?_
 rotate_left
 ·(intro w hS; (try dsimp only at hS); go_simp; try with_reducible rfl)
 try simp only [Act.put, pa, pb, pc]
 refine wpAnyH_ready (rs := [5]) (by kernel_rfl) (by simp) ?_
 refine AllReadyH.cons (o := ⟨some 91, _, _, _, _, _⟩) rfl (fun K hK => ?_) AllReadyH.nil
 go_simp
 go_at_call 57
 refine (KP.out _ OD.out).mono ?_
 rintro e w5 ⟨rfl, p5⟩
 have P5 := Lib.hid p5
 clear p5
 have D5 := Lib.hid (HB1.out _ P5.out)
 have a1 := D5.out.1.cell_some (i := 1) rfl
 have a2 := D5.out.1.cell_some (i := 2) rfl
 go_simp
 refine hK.out _ _ (⟨a1, a2⟩) (fun hHeld => ?_)
 try simp only [Act.put, pa, pb, pc]
 refine wpAnyH_ready (rs := [11]) (by kernel_rfl) (by simp) ?_
 refine AllReadyH.cons (o := ⟨some 97, _, _, _, _, _⟩) rfl (fun K hK => ?_) AllReadyH.nil
 go_simp
 go_at_call 114
 refine (KR.out _ P5.out).mono ?_
 rintro e w6 ⟨rfl, p6⟩
 have P6 := Lib.hid p6
 clear p6
 have D6 := Lib.hid (HB2.out _ P6.out)
 have b1 := D6.out.1.cell_some (i := 1) rfl
 have b2 := D6.out.1.cell_some (i := 2) rfl
 go_simp
 refine hK.out _ _ (⟨b1, b2⟩) (fun hHeld => ?_)
 try simp only [Act.put, pa, pb, pc]
 refine tkf (i := 12) (oi := ⟨some 98, _, _, _, _, _⟩) (v := ?_) rfl (by kernel_rfl) (fun _ _ _ h => h) (by assumption) ?_ ?_
 rotate_left
 ·(intro w hS; (try dsimp only at hS); go_simp; try with_reducible rfl)
 try simp only [Act.put, pa, pb, pc]
 refine tkf (i := 13) (oi := ⟨some 6, _, _, _, _, _⟩) (v := ?_) rfl (by kernel_rfl) (fun _ _ _ h => h) (by assumption) ?_ ?_
 rotate_left
 ·(intro w hS; (try dsimp only at hS); go_simp; try with_reducible rfl)
 try simp only [Act.put, pa, pb, pc]
 refine wpAnyH_done (by kernel_rfl) ?_ _
 go_wp2_with fail
 go_ret
 exact ⟨RB.mk _, P6.out⟩
set_option maxRecDepth 100000 in
set_option maxHeartbeats 4000000 in
theorem do15_get {w : World} {pq xq rs : Nat} (kd l : Int) (s : ByteArray) (hk : kd = 5 ∨ kd = 6 ∨ kd = 7) {P1 P2 : World → Prop} (s1 : Stays15 P1) (s2 : Stays15 P2) (HB1 : ∀ W, P1 W → ActAt15 W w.heap.size kd l s ∧ W.cell? ⟨xq, 0, none⟩ = some (.pointer (some ⟨rs, 0, none⟩))) (HB2 : ∀ W, P2 W → ActAt15 W w.heap.size kd l s ∧ W.cell? ⟨xq, 0, none⟩ = some (.pointer (some ⟨rs, 0, none⟩))) (HX : ∀ W, Below (doW15 w kd l s).heap.size (doW15 w kd l s) W → W.cell? ⟨xq, 0, none⟩ = some (.pointer (some ⟨rs, 0, none⟩))) {u1 u2 : ByteArray} {e1 e2 : Int}
  (KP : ∀ W, Below (doW15 w kd l s).heap.size (doW15 w kd l s) W → Calls Tryz.prog 46 #[pp pq, .int .i64 l] W fun e W' => e = .returned (.tuple #[.string u1, .int .i64 e1]) ∧ P1 W')
  (KR : ∀ W, P1 W → Calls Tryz.prog 115 #[rp xq, .int .i64 l] W fun e W' => e = .returned (.tuple #[.string u2, .int .i64 e2]) ∧ P2 W') :
  Calls Tryz.prog 42 #[pp pq, rp xq, .agg #[.int .i64 kd, .int .i64 l, .string s]] w fun e W => RB e ∧ P2 W := by
 have KP := Lib.hid KP
 have KR := Lib.hid KR
 have HB1 := Lib.hid HB1
 have HB2 := Lib.hid HB2
 have HX := Lib.hid HX
 have S1 := Lib.hid s1
 have S2 := Lib.hid s2
 clear s1 s2
 have B0 := Lib.hid (doW15_act w kd l s)
 have OB := Lib.hid (Below.refl (doW15 w kd l s).heap.size (doW15 w kd l s))
 rcases hk with rfl | rfl | rfl
 ·unfold pp rp at *
  go_enter Tryz.func42, Tryz.ntmps42
  go_wp2_with fail
  rw [show w.alloc (.cells #[.int .i64 5, .int .i64 l, .string s] 80) = doW15 w 5 l s from rfl]
  obtain ⟨w1, hw1⟩ : ∃ w1, doW15 w 5 l s = w1 := ⟨_, rfl⟩
  rw [hw1] at B0 OB KP HX ⊢
  clear hw1
  have c0 := B0.out.cell_some (i := 0) rfl
  have c1 := B0.out.cell_some (i := 1) rfl
  have c2 := B0.out.cell_some (i := 2) rfl
  go_wp2_with fail
  refine (KP.out _ OB.out).mono ?_
  rintro e w5 ⟨rfl, p5⟩
  have P5 := Lib.hid p5
  clear p5
  have D5 := Lib.hid (HB1.out _ P5.out)
  clear c0 c1 c2
  have a1 := D5.out.1.cell_some (i := 1) rfl
  have a2 := D5.out.1.cell_some (i := 2) rfl
  go_wp2_with fail
  refine (KR.out _ P5.out).mono ?_
  rintro e w6 ⟨rfl, p6⟩
  have P6 := Lib.hid p6
  clear p6
  obtain ⟨t, ht⟩ : ∃ t : Bool, (u1.toList == u2.toList) = t := ⟨_, rfl⟩
  cases t
  ·go_wp2_with fail
   go_ret
   exact ⟨RB.mk _, P6.out⟩
  ·go_wp2_with fail
   go_ret
   exact ⟨RB.mk _, P6.out⟩
 ·unfold pp rp at *
  go_enter Tryz.func42, Tryz.ntmps42
  go_wp2_with fail
  rw [show w.alloc (.cells #[.int .i64 6, .int .i64 l, .string s] 80) = doW15 w 6 l s from rfl]
  obtain ⟨w1, hw1⟩ : ∃ w1, doW15 w 6 l s = w1 := ⟨_, rfl⟩
  rw [hw1] at B0 OB KP HX ⊢
  clear hw1
  have c0 := B0.out.cell_some (i := 0) rfl
  have c1 := B0.out.cell_some (i := 1) rfl
  have c2 := B0.out.cell_some (i := 2) rfl
  go_wp2_with fail
  refine (KP.out _ OB.out).mono ?_
  rintro e w5 ⟨rfl, p5⟩
  have P5 := Lib.hid p5
  clear p5
  have D5 := Lib.hid (HB1.out _ P5.out)
  clear c0 c1 c2
  have a1 := D5.out.1.cell_some (i := 1) rfl
  have a2 := D5.out.1.cell_some (i := 2) rfl
  go_wp2_with fail
  refine (KR.out _ P5.out).mono ?_
  rintro e w6 ⟨rfl, p6⟩
  have P6 := Lib.hid p6
  clear p6
  obtain ⟨t, ht⟩ : ∃ t : Bool, (u1.toList == u2.toList) = t := ⟨_, rfl⟩
  cases t
  ·go_wp2_with fail
   go_ret
   exact ⟨RB.mk _, P6.out⟩
  ·go_wp2_with fail
   go_ret
   exact ⟨RB.mk _, P6.out⟩
 ·unfold pp rp at *
  go_enter Tryz.func42, Tryz.ntmps42
  go_wp2_with fail
  rw [show w.alloc (.cells #[.int .i64 7, .int .i64 l, .string s] 80) = doW15 w 7 l s from rfl]
  obtain ⟨w1, hw1⟩ : ∃ w1, doW15 w 7 l s = w1 := ⟨_, rfl⟩
  rw [hw1] at B0 OB KP HX ⊢
  clear hw1
  have c0 := B0.out.cell_some (i := 0) rfl
  have c1 := B0.out.cell_some (i := 1) rfl
  have c2 := B0.out.cell_some (i := 2) rfl
  go_wp2_with fail
  refine (KP.out _ OB.out).mono ?_
  rintro e w5 ⟨rfl, p5⟩
  have P5 := Lib.hid p5
  clear p5
  have D5 := Lib.hid (HB1.out _ P5.out)
  clear c0 c1 c2
  have a1 := D5.out.1.cell_some (i := 1) rfl
  have a2 := D5.out.1.cell_some (i := 2) rfl
  go_wp2_with fail
  refine (KR.out _ P5.out).mono ?_
  rintro e w6 ⟨rfl, p6⟩
  have P6 := Lib.hid p6
  clear p6
  obtain ⟨t, ht⟩ : ∃ t : Bool, (u1.toList == u2.toList) = t := ⟨_, rfl⟩
  cases t
  ·go_wp2_with fail
   go_ret
   exact ⟨RB.mk _, P6.out⟩
  ·go_wp2_with fail
   go_ret
   exact ⟨RB.mk _, P6.out⟩
set_option maxRecDepth 100000 in
set_option maxHeartbeats 4000000 in
theorem do15_drop {w : World} {pq xq rs : Nat} (kd l : Int) (s : ByteArray) (hk : kd = 11) {P1 P2 : World → Prop} (s1 : Stays15 P1) (s2 : Stays15 P2) (HB1 : ∀ W, P1 W → ActAt15 W w.heap.size kd l s ∧ W.cell? ⟨xq, 0, none⟩ = some (.pointer (some ⟨rs, 0, none⟩))) (HB2 : ∀ W, P2 W → ActAt15 W w.heap.size kd l s ∧ W.cell? ⟨xq, 0, none⟩ = some (.pointer (some ⟨rs, 0, none⟩))) (HX : ∀ W, Below (doW15 w kd l s).heap.size (doW15 w kd l s) W → W.cell? ⟨xq, 0, none⟩ = some (.pointer (some ⟨rs, 0, none⟩))) {e1 e2 : Int}
  (KP : ∀ W, Below (doW15 w kd l s).heap.size (doW15 w kd l s) W → Calls Tryz.prog 58 #[pp pq, .int .i64 l] W fun e W' => e = .returned (.int .i64 e1) ∧ P1 W')
  (KR : ∀ W, P1 W → Calls Tryz.prog 116 #[rp xq, .int .i64 l] W fun e W' => e = .returned (.int .i64 e2) ∧ P2 W') :
  Calls Tryz.prog 42 #[pp pq, rp xq, .agg #[.int .i64 kd, .int .i64 l, .string s]] w fun e W => RB e ∧ P2 W := by
 have KP := Lib.hid KP
 have KR := Lib.hid KR
 have HB1 := Lib.hid HB1
 have HB2 := Lib.hid HB2
 have HX := Lib.hid HX
 have S1 := Lib.hid s1
 have S2 := Lib.hid s2
 clear s1 s2
 have B0 := Lib.hid (doW15_act w kd l s)
 have OB := Lib.hid (Below.refl (doW15 w kd l s).heap.size (doW15 w kd l s))
 subst hk
 unfold pp rp at *
 go_enter Tryz.func42, Tryz.ntmps42
 go_wp2_with fail
 rw [show w.alloc (.cells #[.int .i64 11, .int .i64 l, .string s] 80) = doW15 w 11 l s from rfl]
 obtain ⟨w1, hw1⟩ : ∃ w1, doW15 w 11 l s = w1 := ⟨_, rfl⟩
 rw [hw1] at B0 OB KP HX ⊢
 clear hw1
 have c0 := B0.out.cell_some (i := 0) rfl
 have c1 := B0.out.cell_some (i := 1) rfl
 have c2 := B0.out.cell_some (i := 2) rfl
 go_wp2_with fail
 have OD := Lib.hid OB.out.drew
 clear c0
 have S0 := Lib.hid (show (fun W' => W'.cell? ⟨w.heap.size, 1, none⟩ = some (.int .i64 l) ∧ W'.cell? ⟨w.heap.size, 2, none⟩ = some (.string s)) w1.drew from ⟨(B0.out.drew).cell_some (i := 1) rfl, (B0.out.drew).cell_some (i := 2) rfl⟩)
 clear c1 c2
 refine wp_region_held_drew (S := fun W' => W'.cell? ⟨w.heap.size, 1, none⟩ = some (.int .i64 l) ∧ W'.cell? ⟨w.heap.size, 2, none⟩ = some (.string s)) (by kernel_rfl) (S0.out) (fun hHeld => ?_)
 refine tkf (i := 0) (oi := ⟨some 127, _, _, _, _, _⟩) (v := ?_) rfl (by kernel_rfl) (fun _ _ _ h => h) (by assumption) ?_ ?_
 rotate_left
 ·(intro w hS; (try dsimp only at hS); go_simp; try with_reducible rfl)
 try simp only [Act.put, pa, pb, pc]
 refine tkf (i := 1) (oi := ⟨some 128, _, _, _, _, _⟩) (v := ?_) rfl (by kernel_rfl) (fun _ _ _ h => h) (by assumption) ?_ ?_
 rotate_left
 ·(intro w hS; (try dsimp only at hS); go_simp; try with_reducible rfl)
 try simp only [Act.put, pa, pb, pc]
 refine tkf (i := 2) (oi := ⟨some 129, _, _, _, _, _⟩) (v := ?_) rfl (by kernel_rfl) (fun _ _ _ h => h) (by assumption) ?_ ?_
 rotate_left
 ·(intro w hS; (try dsimp only at hS); go_simp; try with_reducible rfl)
 try simp only [Act.put, pa, pb, pc]
 refine tkf (i := 4) (oi := ⟨some 131, _, _, _, _, _⟩) (v := ?_) rfl (by kernel_rfl) (fun _ _ _ h => h) (by assumption) ?_ ?_
 rotate_left
 ·(intro w hS; (try dsimp only at hS); go_simp; try with_reducible rfl)
 try simp only [Act.put, pa, pb, pc]
 refine tkf (i := 5) (oi := ⟨some 132, _, _, _, _, _⟩) (v := ?_) rfl (by kernel_rfl) (fun _ _ _ h => h) (by assumption) ?_ ?_
 rotate_left
 ·(intro w hS; (try dsimp only at hS); go_simp; try with_reducible rfl)
 try simp only [Act.put, pa, pb, pc]
 refine tkf (i := 6) (oi := ⟨some 133, _, _, _, _, _⟩) (v := ?_) rfl (by kernel_rfl) (fun _ _ _ h => h) (by assumption) ?_ ?_
 rotate_left
 ·(intro w hS; (try dsimp only at hS); go_simp; try with_reducible rfl)
 try simp only [Act.put, pa, pb, pc]
 refine wpAnyH_ready (rs := [3]) (by kernel_rfl) (by simp) ?_
 refine AllReadyH.cons (o := ⟨some 130, _, _, _, _, _⟩) rfl (fun K hK => ?_) AllReadyH.nil
 go_simp
 go_at_call 58
 refine (KP.out _ OD.out).mono ?_
 rintro e w5 ⟨rfl, p5⟩
 have P5 := Lib.hid p5
 clear p5
 have D5 := Lib.hid (HB1.out _ P5.out)
 have a1 := D5.out.1.cell_some (i := 1) rfl
 have a2 := D5.out.1.cell_some (i := 2) rfl
 go_simp
 refine hK.out _ _ (⟨a1, a2⟩) (fun hHeld => ?_)
 try simp only [Act.put, pa, pb, pc]
 refine wpAnyH_ready (rs := [7]) (by kernel_rfl) (by simp) ?_
 refine AllReadyH.cons (o := ⟨some 134, _, _, _, _, _⟩) rfl (fun K hK => ?_) AllReadyH.nil
 go_simp
 go_at_call 116
 refine (KR.out _ P5.out).mono ?_
 rintro e w6 ⟨rfl, p6⟩
 have P6 := Lib.hid p6
 clear p6
 have D6 := Lib.hid (HB2.out _ P6.out)
 have b1 := D6.out.1.cell_some (i := 1) rfl
 have b2 := D6.out.1.cell_some (i := 2) rfl
 go_simp
 refine hK.out _ _ (⟨b1, b2⟩) (fun hHeld => ?_)
 try simp only [Act.put, pa, pb, pc]
 refine tkf (i := 8) (oi := ⟨some 135, _, _, _, _, _⟩) (v := ?_) rfl (by kernel_rfl) (fun _ _ _ h => h) (by assumption) ?_ ?_
 rotate_left
 ·(intro w hS; (try dsimp only at hS); go_simp; try with_reducible rfl)
 try simp only [Act.put, pa, pb, pc]
 refine tkf (i := 9) (oi := ⟨some 6, _, _, _, _, _⟩) (v := ?_) rfl (by kernel_rfl) (fun _ _ _ h => h) (by assumption) ?_ ?_
 rotate_left
 ·(intro w hS; (try dsimp only at hS); go_simp; try with_reducible rfl)
 try simp only [Act.put, pa, pb, pc]
 refine wpAnyH_done (by kernel_rfl) ?_ _
 go_wp2_with fail
 go_ret
 exact ⟨RB.mk _, P6.out⟩
set_option maxRecDepth 100000 in
set_option maxHeartbeats 4000000 in
theorem do15_evict {w : World} {pq xq rs : Nat} (kd l : Int) (s : ByteArray) (hk : kd = 12) {P1 P2 : World → Prop} (s1 : Stays15 P1) (s2 : Stays15 P2) (HB1 : ∀ W, P1 W → ActAt15 W w.heap.size kd l s ∧ W.cell? ⟨xq, 0, none⟩ = some (.pointer (some ⟨rs, 0, none⟩))) (HB2 : ∀ W, P2 W → ActAt15 W w.heap.size kd l s ∧ W.cell? ⟨xq, 0, none⟩ = some (.pointer (some ⟨rs, 0, none⟩))) (HX : ∀ W, Below (doW15 w kd l s).heap.size (doW15 w kd l s) W → W.cell? ⟨xq, 0, none⟩ = some (.pointer (some ⟨rs, 0, none⟩))) {e1 e2 : Int}
  (KP : ∀ W, Below (doW15 w kd l s).heap.size (doW15 w kd l s) W → Calls Tryz.prog 59 #[pp pq, .int .i64 l] W fun e W' => e = .returned (.int .i64 e1) ∧ P1 W')
  (KR : ∀ W, P1 W → Calls Tryz.prog 117 #[rp xq, .int .i64 l] W fun e W' => e = .returned (.int .i64 e2) ∧ P2 W') :
  Calls Tryz.prog 42 #[pp pq, rp xq, .agg #[.int .i64 kd, .int .i64 l, .string s]] w fun e W => RB e ∧ P2 W := by
 have KP := Lib.hid KP
 have KR := Lib.hid KR
 have HB1 := Lib.hid HB1
 have HB2 := Lib.hid HB2
 have HX := Lib.hid HX
 have S1 := Lib.hid s1
 have S2 := Lib.hid s2
 clear s1 s2
 have B0 := Lib.hid (doW15_act w kd l s)
 have OB := Lib.hid (Below.refl (doW15 w kd l s).heap.size (doW15 w kd l s))
 subst hk
 unfold pp rp at *
 go_enter Tryz.func42, Tryz.ntmps42
 go_wp2_with fail
 rw [show w.alloc (.cells #[.int .i64 12, .int .i64 l, .string s] 80) = doW15 w 12 l s from rfl]
 obtain ⟨w1, hw1⟩ : ∃ w1, doW15 w 12 l s = w1 := ⟨_, rfl⟩
 rw [hw1] at B0 OB KP HX ⊢
 clear hw1
 have c0 := B0.out.cell_some (i := 0) rfl
 have c1 := B0.out.cell_some (i := 1) rfl
 have c2 := B0.out.cell_some (i := 2) rfl
 go_wp2_with fail
 have OD := Lib.hid OB.out.drew
 clear c0
 have S0 := Lib.hid (show (fun W' => W'.cell? ⟨w.heap.size, 1, none⟩ = some (.int .i64 l) ∧ W'.cell? ⟨w.heap.size, 2, none⟩ = some (.string s)) w1.drew from ⟨(B0.out.drew).cell_some (i := 1) rfl, (B0.out.drew).cell_some (i := 2) rfl⟩)
 clear c1 c2
 refine wp_region_held_drew (S := fun W' => W'.cell? ⟨w.heap.size, 1, none⟩ = some (.int .i64 l) ∧ W'.cell? ⟨w.heap.size, 2, none⟩ = some (.string s)) (by kernel_rfl) (S0.out) (fun hHeld => ?_)
 refine tkf (i := 0) (oi := ⟨some 138, _, _, _, _, _⟩) (v := ?_) rfl (by kernel_rfl) (fun _ _ _ h => h) (by assumption) ?_ ?_
 rotate_left
 ·(intro w hS; (try dsimp only at hS); go_simp; try with_reducible rfl)
 try simp only [Act.put, pa, pb, pc]
 refine tkf (i := 1) (oi := ⟨some 139, _, _, _, _, _⟩) (v := ?_) rfl (by kernel_rfl) (fun _ _ _ h => h) (by assumption) ?_ ?_
 rotate_left
 ·(intro w hS; (try dsimp only at hS); go_simp; try with_reducible rfl)
 try simp only [Act.put, pa, pb, pc]
 refine tkf (i := 2) (oi := ⟨some 140, _, _, _, _, _⟩) (v := ?_) rfl (by kernel_rfl) (fun _ _ _ h => h) (by assumption) ?_ ?_
 rotate_left
 ·(intro w hS; (try dsimp only at hS); go_simp; try with_reducible rfl)
 try simp only [Act.put, pa, pb, pc]
 refine tkf (i := 4) (oi := ⟨some 142, _, _, _, _, _⟩) (v := ?_) rfl (by kernel_rfl) (fun _ _ _ h => h) (by assumption) ?_ ?_
 rotate_left
 ·(intro w hS; (try dsimp only at hS); go_simp; try with_reducible rfl)
 try simp only [Act.put, pa, pb, pc]
 refine tkf (i := 5) (oi := ⟨some 143, _, _, _, _, _⟩) (v := ?_) rfl (by kernel_rfl) (fun _ _ _ h => h) (by assumption) ?_ ?_
 rotate_left
 ·(intro w hS; (try dsimp only at hS); go_simp; try with_reducible rfl)
 try simp only [Act.put, pa, pb, pc]
 refine tkf (i := 6) (oi := ⟨some 144, _, _, _, _, _⟩) (v := ?_) rfl (by kernel_rfl) (fun _ _ _ h => h) (by assumption) ?_ ?_
 rotate_left
 ·(intro w hS; (try dsimp only at hS); go_simp; try with_reducible rfl)
 try simp only [Act.put, pa, pb, pc]
 refine wpAnyH_ready (rs := [3]) (by kernel_rfl) (by simp) ?_
 refine AllReadyH.cons (o := ⟨some 141, _, _, _, _, _⟩) rfl (fun K hK => ?_) AllReadyH.nil
 go_simp
 go_at_call 59
 refine (KP.out _ OD.out).mono ?_
 rintro e w5 ⟨rfl, p5⟩
 have P5 := Lib.hid p5
 clear p5
 have D5 := Lib.hid (HB1.out _ P5.out)
 have a1 := D5.out.1.cell_some (i := 1) rfl
 have a2 := D5.out.1.cell_some (i := 2) rfl
 go_simp
 refine hK.out _ _ (⟨a1, a2⟩) (fun hHeld => ?_)
 try simp only [Act.put, pa, pb, pc]
 refine wpAnyH_ready (rs := [7]) (by kernel_rfl) (by simp) ?_
 refine AllReadyH.cons (o := ⟨some 145, _, _, _, _, _⟩) rfl (fun K hK => ?_) AllReadyH.nil
 go_simp
 go_at_call 117
 refine (KR.out _ P5.out).mono ?_
 rintro e w6 ⟨rfl, p6⟩
 have P6 := Lib.hid p6
 clear p6
 have D6 := Lib.hid (HB2.out _ P6.out)
 have b1 := D6.out.1.cell_some (i := 1) rfl
 have b2 := D6.out.1.cell_some (i := 2) rfl
 go_simp
 refine hK.out _ _ (⟨b1, b2⟩) (fun hHeld => ?_)
 try simp only [Act.put, pa, pb, pc]
 refine tkf (i := 8) (oi := ⟨some 146, _, _, _, _, _⟩) (v := ?_) rfl (by kernel_rfl) (fun _ _ _ h => h) (by assumption) ?_ ?_
 rotate_left
 ·(intro w hS; (try dsimp only at hS); go_simp; try with_reducible rfl)
 try simp only [Act.put, pa, pb, pc]
 refine tkf (i := 9) (oi := ⟨some 6, _, _, _, _, _⟩) (v := ?_) rfl (by kernel_rfl) (fun _ _ _ h => h) (by assumption) ?_ ?_
 rotate_left
 ·(intro w hS; (try dsimp only at hS); go_simp; try with_reducible rfl)
 try simp only [Act.put, pa, pb, pc]
 refine wpAnyH_done (by kernel_rfl) ?_ _
 go_wp2_with fail
 go_ret
 exact ⟨RB.mk _, P6.out⟩
set_option maxRecDepth 100000 in
set_option maxHeartbeats 4000000 in
theorem do15_put {w : World} {pq xq rs : Nat} (kd l : Int) (s : ByteArray) (hk : kd ≠ 0 ∧ kd ≠ 1 ∧ kd ≠ 2 ∧ kd ≠ 3 ∧ kd ≠ 4 ∧ kd ≠ 5 ∧ kd ≠ 6 ∧ kd ≠ 7 ∧ kd ≠ 11 ∧ kd ≠ 12 ∧ kd ≠ 13 ∧ kd ≠ 14) {P1 P2 : World → Prop} (s1 : Stays15 P1) (s2 : Stays15 P2) (HB1 : ∀ W, P1 W → ActAt15 W w.heap.size kd l s ∧ W.cell? ⟨xq, 0, none⟩ = some (.pointer (some ⟨rs, 0, none⟩))) (HB2 : ∀ W, P2 W → ActAt15 W w.heap.size kd l s ∧ W.cell? ⟨xq, 0, none⟩ = some (.pointer (some ⟨rs, 0, none⟩))) (HX : ∀ W, Below (doW15 w kd l s).heap.size (doW15 w kd l s) W → W.cell? ⟨xq, 0, none⟩ = some (.pointer (some ⟨rs, 0, none⟩))) {e1 e2 : Int}
  (KP : ∀ W, Below (doW15 w kd l s).heap.size (doW15 w kd l s) W → Calls Tryz.prog 45 #[pp pq, .int .i64 l, .string s] W fun e W' => e = .returned (.int .i64 e1) ∧ P1 W')
  (KR : ∀ W, P1 W → Calls Tryz.prog 119 #[rp xq, .int .i64 l, .string s] W fun e W' => e = .returned (.int .i64 e2) ∧ P2 W') :
  Calls Tryz.prog 42 #[pp pq, rp xq, .agg #[.int .i64 kd, .int .i64 l, .string s]] w fun e W => RB e ∧ P2 W := by
 have KP := Lib.hid KP
 have KR := Lib.hid KR
 have HB1 := Lib.hid HB1
 have HB2 := Lib.hid HB2
 have HX := Lib.hid HX
 have S1 := Lib.hid s1
 have S2 := Lib.hid s2
 clear s1 s2
 have B0 := Lib.hid (doW15_act w kd l s)
 have OB := Lib.hid (Below.refl (doW15 w kd l s).heap.size (doW15 w kd l s))
 have k0 : (kd == 0) = false := by simp; omega
 have k1 : (kd == 1) = false := by simp; omega
 have k2 : (kd == 2) = false := by simp; omega
 have k3 : (kd == 3) = false := by simp; omega
 have k4 : (kd == 4) = false := by simp; omega
 have k5 : (kd == 5) = false := by simp; omega
 have k6 : (kd == 6) = false := by simp; omega
 have k7 : (kd == 7) = false := by simp; omega
 have k11 : (kd == 11) = false := by simp; omega
 have k12 : (kd == 12) = false := by simp; omega
 have k13 : (kd == 13) = false := by simp; omega
 have k14 : (kd == 14) = false := by simp; omega
 clear hk
 unfold pp rp at *
 go_enter Tryz.func42, Tryz.ntmps42
 go_wp2_with fail
 rw [show w.alloc (.cells #[.int .i64 kd, .int .i64 l, .string s] 80) = doW15 w kd l s from rfl]
 obtain ⟨w1, hw1⟩ : ∃ w1, doW15 w kd l s = w1 := ⟨_, rfl⟩
 rw [hw1] at B0 OB KP HX ⊢
 clear hw1
 have c0 := B0.out.cell_some (i := 0) rfl
 have c1 := B0.out.cell_some (i := 1) rfl
 have c2 := B0.out.cell_some (i := 2) rfl
 go_wp2_with fail
 have OD := Lib.hid OB.out.drew
 clear c0
 have S0 := Lib.hid (show (fun W' => W'.cell? ⟨w.heap.size, 1, none⟩ = some (.int .i64 l) ∧ W'.cell? ⟨w.heap.size, 2, none⟩ = some (.string s)) w1.drew from ⟨(B0.out.drew).cell_some (i := 1) rfl, (B0.out.drew).cell_some (i := 2) rfl⟩)
 clear c1 c2
 refine wp_region_held_drew (S := fun W' => W'.cell? ⟨w.heap.size, 1, none⟩ = some (.int .i64 l) ∧ W'.cell? ⟨w.heap.size, 2, none⟩ = some (.string s)) (by kernel_rfl) (S0.out) (fun hHeld => ?_)
 refine tkf (i := 0) (oi := ⟨some 160, _, _, _, _, _⟩) (v := ?_) rfl (by kernel_rfl) (fun _ _ _ h => h) (by assumption) ?_ ?_
 rotate_left
 ·(intro w hS; (try dsimp only at hS); go_simp; try with_reducible rfl)
 try simp only [Act.put, pa, pb, pc]
 refine tkf (i := 1) (oi := ⟨some 161, _, _, _, _, _⟩) (v := ?_) rfl (by kernel_rfl) (fun _ _ _ h => h) (by assumption) ?_ ?_
 rotate_left
 ·(intro w hS; (try dsimp only at hS); go_simp; try with_reducible rfl)
 try simp only [Act.put, pa, pb, pc]
 refine tkf (i := 2) (oi := ⟨some 162, _, _, _, _, _⟩) (v := ?_) rfl (by kernel_rfl) (fun _ _ _ h => h) (by assumption) ?_ ?_
 rotate_left
 ·(intro w hS; (try dsimp only at hS); go_simp; try with_reducible rfl)
 try simp only [Act.put, pa, pb, pc]
 refine tkf (i := 3) (oi := ⟨some 163, _, _, _, _, _⟩) (v := ?_) rfl (by kernel_rfl) (fun _ _ _ h => h) (by assumption) ?_ ?_
 rotate_left
 ·(intro w hS; (try dsimp only at hS); go_simp; try with_reducible rfl)
 try simp only [Act.put, pa, pb, pc]
 refine tkf (i := 4) (oi := ⟨some 164, _, _, _, _, _⟩) (v := ?_) rfl (by kernel_rfl) (fun _ _ _ h => h) (by assumption) ?_ ?_
 rotate_left
 ·(intro w hS; (try dsimp only at hS); go_simp; try with_reducible rfl)
 try simp only [Act.put, pa, pb, pc]
 refine tkf (i := 6) (oi := ⟨some 166, _, _, _, _, _⟩) (v := ?_) rfl (by kernel_rfl) (fun _ _ _ h => h) (by assumption) ?_ ?_
 rotate_left
 ·(intro w hS; (try dsimp only at hS); go_simp; try with_reducible rfl)
 try simp only [Act.put, pa, pb, pc]
 refine tkf (i := 7) (oi := ⟨some 167, _, _, _, _, _⟩) (v := ?_) rfl (by kernel_rfl) (fun _ _ _ h => h) (by assumption) ?_ ?_
 rotate_left
 ·(intro w hS; (try dsimp only at hS); go_simp; try with_reducible rfl)
 try simp only [Act.put, pa, pb, pc]
 refine tkf (i := 8) (oi := ⟨some 168, _, _, _, _, _⟩) (v := ?_) rfl (by kernel_rfl) (fun _ _ _ h => h) (by assumption) ?_ ?_
 rotate_left
 ·(intro w hS; (try dsimp only at hS); go_simp; try with_reducible rfl)
 try simp only [Act.put, pa, pb, pc]
 refine tkf (i := 9) (oi := ⟨some 169, _, _, _, _, _⟩) (v := ?_) rfl (by kernel_rfl) (fun _ _ _ h => h) (by assumption) ?_ ?_
 rotate_left
 ·(intro w hS; (try dsimp only at hS); go_simp; try with_reducible rfl)
 try simp only [Act.put, pa, pb, pc]
 refine tkf (i := 10) (oi := ⟨some 170, _, _, _, _, _⟩) (v := ?_) rfl (by kernel_rfl) (fun _ _ _ h => h) (by assumption) ?_ ?_
 rotate_left
 ·(intro w hS; (try dsimp only at hS); go_simp; try with_reducible rfl)
 try simp only [Act.put, pa, pb, pc]
 refine wpAnyH_ready (rs := [5]) (by kernel_rfl) (by simp) ?_
 refine AllReadyH.cons (o := ⟨some 165, _, _, _, _, _⟩) rfl (fun K hK => ?_) AllReadyH.nil
 go_simp
 go_at_call 45
 refine (KP.out _ OD.out).mono ?_
 rintro e w5 ⟨rfl, p5⟩
 have P5 := Lib.hid p5
 clear p5
 have D5 := Lib.hid (HB1.out _ P5.out)
 have a1 := D5.out.1.cell_some (i := 1) rfl
 have a2 := D5.out.1.cell_some (i := 2) rfl
 go_simp
 refine hK.out _ _ (⟨a1, a2⟩) (fun hHeld => ?_)
 try simp only [Act.put, pa, pb, pc]
 refine wpAnyH_ready (rs := [11]) (by kernel_rfl) (by simp) ?_
 refine AllReadyH.cons (o := ⟨some 171, _, _, _, _, _⟩) rfl (fun K hK => ?_) AllReadyH.nil
 go_simp
 go_at_call 119
 refine (KR.out _ P5.out).mono ?_
 rintro e w6 ⟨rfl, p6⟩
 have P6 := Lib.hid p6
 clear p6
 have D6 := Lib.hid (HB2.out _ P6.out)
 have b1 := D6.out.1.cell_some (i := 1) rfl
 have b2 := D6.out.1.cell_some (i := 2) rfl
 go_simp
 refine hK.out _ _ (⟨b1, b2⟩) (fun hHeld => ?_)
 try simp only [Act.put, pa, pb, pc]
 refine tkf (i := 12) (oi := ⟨some 172, _, _, _, _, _⟩) (v := ?_) rfl (by kernel_rfl) (fun _ _ _ h => h) (by assumption) ?_ ?_
 rotate_left
 ·(intro w hS; (try dsimp only at hS); go_simp; try with_reducible rfl)
 try simp only [Act.put, pa, pb, pc]
 refine tkf (i := 13) (oi := ⟨some 6, _, _, _, _, _⟩) (v := ?_) rfl (by kernel_rfl) (fun _ _ _ h => h) (by assumption) ?_ ?_
 rotate_left
 ·(intro w hS; (try dsimp only at hS); go_simp; try with_reducible rfl)
 try simp only [Act.put, pa, pb, pc]
 refine wpAnyH_done (by kernel_rfl) ?_ _
 go_wp2_with fail
 go_ret
 exact ⟨RB.mk _, P6.out⟩
set_option maxRecDepth 100000 in
set_option maxHeartbeats 4000000 in
theorem do15_commit {w : World} {pq xq rs : Nat} (kd l : Int) (s : ByteArray) (hk : kd = 13) {P1 P2 : World → Prop} (s1 : Stays15 P1) (s2 : Stays15 P2) (HB1 : ∀ W, P1 W → ActAt15 W w.heap.size kd l s ∧ W.cell? ⟨xq, 0, none⟩ = some (.pointer (some ⟨rs, 0, none⟩))) (HB2 : ∀ W, P2 W → ActAt15 W w.heap.size kd l s ∧ W.cell? ⟨xq, 0, none⟩ = some (.pointer (some ⟨rs, 0, none⟩))) (HX : ∀ W, Below (doW15 w kd l s).heap.size (doW15 w kd l s) W → W.cell? ⟨xq, 0, none⟩ = some (.pointer (some ⟨rs, 0, none⟩))) {e1 e2 : Int}
  (KP : ∀ W, Below (doW15 w kd l s).heap.size (doW15 w kd l s) W → Calls Tryz.prog 48 #[pp pq] W fun e W' => e = .returned (.int .i64 e1) ∧ P1 W')
  (KR : ∀ W, P1 W → Calls Tryz.prog 49 #[rp xq] W fun e W' => e = .returned (.int .i64 e2) ∧ P2 W') :
  Calls Tryz.prog 42 #[pp pq, rp xq, .agg #[.int .i64 kd, .int .i64 l, .string s]] w fun e W => RB e ∧ P2 W := by
 have KP := Lib.hid KP
 have KR := Lib.hid KR
 have HB1 := Lib.hid HB1
 have HB2 := Lib.hid HB2
 have HX := Lib.hid HX
 have S1 := Lib.hid s1
 have S2 := Lib.hid s2
 clear s1 s2
 have B0 := Lib.hid (doW15_act w kd l s)
 have OB := Lib.hid (Below.refl (doW15 w kd l s).heap.size (doW15 w kd l s))
 subst hk
 unfold pp rp at *
 go_enter Tryz.func42, Tryz.ntmps42
 go_wp2_with fail
 rw [show w.alloc (.cells #[.int .i64 13, .int .i64 l, .string s] 80) = doW15 w 13 l s from rfl]
 obtain ⟨w1, hw1⟩ : ∃ w1, doW15 w 13 l s = w1 := ⟨_, rfl⟩
 rw [hw1] at B0 OB KP HX ⊢
 clear hw1
 have c0 := B0.out.cell_some (i := 0) rfl
 have c1 := B0.out.cell_some (i := 1) rfl
 have c2 := B0.out.cell_some (i := 2) rfl
 go_wp2_with fail
 refine (KP.out _ OB.out).mono ?_
 rintro e w5 ⟨rfl, p5⟩
 have P5 := Lib.hid p5
 clear p5
 have D5 := Lib.hid (HB1.out _ P5.out)
 clear c0 c1 c2
 have a1 := D5.out.1.cell_some (i := 1) rfl
 have a2 := D5.out.1.cell_some (i := 2) rfl
 go_wp2_with fail
 refine (KR.out _ P5.out).mono ?_
 rintro e w6 ⟨rfl, p6⟩
 have P6 := Lib.hid p6
 clear p6
 go_wp2_with fail
 go_ret
 exact ⟨RB.mk _, P6.out⟩
set_option maxRecDepth 100000 in
set_option maxHeartbeats 4000000 in
theorem do15_abort {w : World} {pq xq : Nat} (l : Int) (s : ByteArray) {P1 P2 : World → Prop}
  (KR : ∀ W, Below (doW15 w 14 l s).heap.size (doW15 w 14 l s) W → Calls Tryz.prog 118 #[rp xq] W fun e W' => e = .returned (.tuple #[]) ∧ P1 W')
  (KP : ∀ W, P1 W → Calls Tryz.prog 50 #[pp pq] W fun e W' => e = .returned (.bool true) ∧ P2 W') :
  Calls Tryz.prog 42 #[pp pq, rp xq, .agg #[.int .i64 14, .int .i64 l, .string s]] w fun e W => RB e ∧ P2 W := by
 have KP := Lib.hid KP
 have KR := Lib.hid KR
 have B0 := Lib.hid (doW15_act w 14 l s)
 have OB := Lib.hid (Below.refl (doW15 w 14 l s).heap.size (doW15 w 14 l s))
 unfold pp rp at *
 go_enter Tryz.func42, Tryz.ntmps42
 go_wp2_with fail
 rw [show w.alloc (.cells #[.int .i64 14, .int .i64 l, .string s] 80) = doW15 w 14 l s from rfl]
 obtain ⟨w1, hw1⟩ : ∃ w1, doW15 w 14 l s = w1 := ⟨_, rfl⟩
 rw [hw1] at B0 OB KR ⊢
 clear hw1
 have c0 := B0.out.cell_some (i := 0) rfl
 go_wp2_with fail
 refine (KR.out _ OB.out).mono ?_
 rintro e w5 ⟨rfl, p5⟩
 have P5 := Lib.hid p5
 clear p5 c0
 go_wp2_with fail
 refine (KP.out _ P5.out).mono ?_
 rintro e w6 ⟨rfl, p6⟩
 have P6 := Lib.hid p6
 clear p6
 go_wp2_with fail
 go_ret
 exact ⟨RB.mk _, P6.out⟩
end Go.Proofs.YtbelcgjbhpjnpaaGreat.Sh
