/- the law's do, walked: over any contracts of the store's and the document's calls. -/
import Derived.Test.YtbelcgjbhpjnpaaGreatSa
import Derived.Test.YtbelcgjbhpjnpaaGreatTb
set_option linter.all false
set_option linter.unusedVariables false
set_option linter.unusedSimpArgs false
namespace Go.Proofs.YtbelcgjbhpjnpaaGreat.Sh
open Go.RowKit Pk Dk Pg
attribute [local go_sem ↓] Go.wp_at_zero Go.wp_at_succ
/-- what stays so while nothing is written -/
def Stays (P : World → Prop) : Prop := ∀ W W', P W → Below W.heap.size W W' → P W'
theorem Stays.drew {P : World → Prop} (h : Stays P) {W : World} (p : P W) : P W.drew := h W _ p ((Below.refl _ _).drew)
def ActAt (W : World) (q : Nat) (kd l : Int) (s : ByteArray) : Prop := Blk W q 31 #[.int .i64 kd, .int .i64 l, .string s]
/-- the world in which do works -/
def doW (w : World) (kd l : Int) (s : ByteArray) : World := w.alloc (.cells #[.int .i64 kd, .int .i64 l, .string s] 31)
theorem doW_act (w : World) (kd l : Int) (s : ByteArray) : ActAt (doW w kd l s) w.heap.size kd l s := Blk.new w 31 #[.int .i64 kd, .int .i64 l, .string s]
theorem doW_below (w : World) (kd l : Int) (s : ByteArray) : Below w.heap.size w (doW w kd l s) := Rt.belowAlloc (Below.refl _ _) _
set_option maxRecDepth 100000 in
set_option maxHeartbeats 2000000 in
theorem do_new {w : World} {Lb b rb : Nat} (kd l : Int) (s : ByteArray) (hk : kd = 0 ∨ kd = 1) {P1 P2 : World → Prop} (s1 : Stays P1) (s2 : Stays P2) (HB : ∀ W, P1 W → ActAt W w.heap.size kd l s) {l1 e1 l2 e2 : Int}
  (KP : Calls Tryz.prog 28 #[sp b, .string s] (doW w kd l s) fun e W => e = .returned (.tuple #[.int .i64 l1, .int .i64 e1]) ∧ P1 W)
  (KR : ∀ W, P1 W → Calls Tryz.prog 67 #[rp rb, .string s] W fun e W' => e = .returned (.tuple #[.int .i64 l2, .int .i64 e2]) ∧ P2 W') :
  Calls Tryz.prog 16 #[dp Lb, sp b, rp rb, .agg #[.int .i64 kd, .int .i64 l, .string s]] w fun e W => (∃ β : Bool, (l1 = l2 ∧ e1 = e2 → β = true) ∧ e = .returned (.tuple #[sp b, .bool β])) ∧ P2 W := by
 have KP := Lib.hid KP
 have KR := Lib.hid KR
 have HB := Lib.hid HB
 obtain ⟨β, hβ⟩ : ∃ β : Bool, β = (decide (l1 = l2) && decide (e1 = e2)) := ⟨_, rfl⟩
 have HBT := Lib.hid (show l1 = l2 ∧ e1 = e2 → β = true from fun h => by rw [hβ]; simp [h.1, h.2])
 rcases hk with hk | hk
 ·have k0 : (kd == 0) = true := by simp [hk]
  clear hk
  have B0 := Lib.hid (doW_act w kd l s)
  unfold doW at *
  unfold sp dp rp at *
  go_enter Tryz.func16, Tryz.ntmps16
  go_wp2_with fail
  generalize hw1 : (w.alloc (.cells #[.int .i64 kd, .int .i64 l, .string s] 31)) = w1 at *
  clear hw1
  have c0 : w1.cell? ⟨w.heap.size, 0, none⟩ = some (.int .i64 kd) := B0.out.cell_some (i := 0) rfl
  have c2 : w1.cell? ⟨w.heap.size, 2, none⟩ = some (.string s) := B0.out.cell_some (i := 2) rfl
  go_wp2_with fail
  refine KP.out.mono ?_
  rintro e w2 ⟨rfl, p1⟩
  have HP1 := Lib.hid p1
  have B2 := Lib.hid (HB.out w2 p1)
  have d2 : w2.cell? ⟨w.heap.size, 2, none⟩ = some (.string s) := B2.out.cell_some (i := 2) rfl
  clear p1
  go_wp2_with fail
  refine (KR.out w2 HP1.out).mono ?_
  rintro e w3 ⟨rfl, p2⟩
  have HP2 := Lib.hid p2
  clear p2
  by_cases h1 : l1 = l2
  ·have q1 : (l1 == l2) = true := by simpa using h1
   by_cases h2 : e1 = e2
   ·have q2 : (e1 == e2) = true := by simpa using h2
    have hb : β = true := by rw [hβ]; simp [h1, h2]
    clear h1 h2 hβ
    go_wp2_with fail
    go_ret2
    exact ⟨⟨β, HBT.out, by rw [hb]; first | rfl | simp⟩, HP2.out⟩
   ·have q2 : (e1 == e2) = false := by simpa using h2
    have hb : β = false := by rw [hβ]; simp [h2]
    clear h1 h2 hβ
    go_wp2_with fail
    go_ret2
    exact ⟨⟨β, HBT.out, by rw [hb]; first | rfl | simp⟩, HP2.out⟩
  ·have q1 : (l1 == l2) = false := by simpa using h1
   have hb : β = false := by rw [hβ]; simp [h1]
   clear h1 hβ
   go_wp2_with fail
   go_ret2
   exact ⟨⟨β, HBT.out, by rw [hb]; first | rfl | simp⟩, HP2.out⟩
 ·have k0 : (kd == 0) = false := by simp [hk]
  have k1 : (kd == 1) = true := by simp [hk]
  clear hk
  have B0 := Lib.hid (doW_act w kd l s)
  unfold doW at *
  unfold sp dp rp at *
  go_enter Tryz.func16, Tryz.ntmps16
  go_wp2_with fail
  generalize hw1 : (w.alloc (.cells #[.int .i64 kd, .int .i64 l, .string s] 31)) = w1 at *
  clear hw1
  have c0 : w1.cell? ⟨w.heap.size, 0, none⟩ = some (.int .i64 kd) := B0.out.cell_some (i := 0) rfl
  have c2 : w1.cell? ⟨w.heap.size, 2, none⟩ = some (.string s) := B0.out.cell_some (i := 2) rfl
  go_wp2_with fail
  refine KP.out.mono ?_
  rintro e w2 ⟨rfl, p1⟩
  have HP1 := Lib.hid p1
  have B2 := Lib.hid (HB.out w2 p1)
  have d2 : w2.cell? ⟨w.heap.size, 2, none⟩ = some (.string s) := B2.out.cell_some (i := 2) rfl
  clear p1
  go_wp2_with fail
  refine (KR.out w2 HP1.out).mono ?_
  rintro e w3 ⟨rfl, p2⟩
  have HP2 := Lib.hid p2
  clear p2
  by_cases h1 : l1 = l2
  ·have q1 : (l1 == l2) = true := by simpa using h1
   by_cases h2 : e1 = e2
   ·have q2 : (e1 == e2) = true := by simpa using h2
    have hb : β = true := by rw [hβ]; simp [h1, h2]
    clear h1 h2 hβ
    go_wp2_with fail
    go_ret2
    exact ⟨⟨β, HBT.out, by rw [hb]; first | rfl | simp⟩, HP2.out⟩
   ·have q2 : (e1 == e2) = false := by simpa using h2
    have hb : β = false := by rw [hβ]; simp [h2]
    clear h1 h2 hβ
    go_wp2_with fail
    go_ret2
    exact ⟨⟨β, HBT.out, by rw [hb]; first | rfl | simp⟩, HP2.out⟩
  ·have q1 : (l1 == l2) = false := by simpa using h1
   have hb : β = false := by rw [hβ]; simp [h1]
   clear h1 hβ
   go_wp2_with fail
   go_ret2
   exact ⟨⟨β, HBT.out, by rw [hb]; first | rfl | simp⟩, HP2.out⟩
set_option maxRecDepth 100000 in
set_option maxHeartbeats 2000000 in
theorem do_commit {w : World} {Lb b rb : Nat} (kd l : Int) (s : ByteArray) (hk : kd = 6 ∨ kd = 7) {P1 P2 : World → Prop} (s1 : Stays P1) (s2 : Stays P2) (HB : ∀ W, P1 W → ActAt W w.heap.size kd l s) {e1 e2 : Int}
  (KP : ∀ W, Below (w.heap.size + 1) (doW w kd l s) W → Calls Tryz.prog 34 #[sp b] W fun e W => e = .returned (.int .i64 e1) ∧ P1 W)
  (KR : ∀ W, P1 W → Calls Tryz.prog 69 #[rp rb] W fun e W' => e = .returned (.int .i64 e2) ∧ P2 W') :
  Calls Tryz.prog 16 #[dp Lb, sp b, rp rb, .agg #[.int .i64 kd, .int .i64 l, .string s]] w fun e W => (∃ β : Bool, (e1 = e2 → β = true) ∧ e = .returned (.tuple #[sp b, .bool β])) ∧ P2 W := by
 have KP := Lib.hid KP
 have KR := Lib.hid KR
 have HB := Lib.hid HB
 have S1 := Lib.hid s1
 have S2 := Lib.hid s2
 have SZ := Lib.hid (show (doW w kd l s).heap.size = w.heap.size + 1 from by unfold doW; simp)
 obtain ⟨β, hβ⟩ : ∃ β : Bool, β = decide (e1 = e2) := ⟨_, rfl⟩
 have HBT := Lib.hid (show e1 = e2 → β = true from fun h => by rw [hβ]; simp [h])
 clear s1 s2
 rcases hk with hk | hk
 ·have k0 : (kd == 0) = false := by simp; omega
  have k1 : (kd == 1) = false := by simp; omega
  have k5 : (kd == 5) = false := by simp; omega
  have k6 : (kd == 6) = true := by simp [hk]
  clear hk
  have B0 := Lib.hid (doW_act w kd l s)
  unfold doW at *
  unfold sp dp rp at *
  go_enter Tryz.func16, Tryz.ntmps16
  go_wp2_with fail
  generalize hw1 : (w.alloc (.cells #[.int .i64 kd, .int .i64 l, .string s] 31)) = w1 at *
  clear hw1
  have c0 : w1.cell? ⟨w.heap.size, 0, none⟩ = some (.int .i64 kd) := B0.out.cell_some (i := 0) rfl
  have c1 : w1.cell? ⟨w.heap.size, 1, none⟩ = some (.int .i64 l) := B0.out.cell_some (i := 1) rfl
  have c2 : w1.cell? ⟨w.heap.size, 2, none⟩ = some (.string s) := B0.out.cell_some (i := 2) rfl
  go_wp2_with fail
  refine (KP.out _ (Below.refl _ _)).mono ?_
  rintro e w2 ⟨rfl, p1⟩
  have HP1 := Lib.hid p1
  clear p1
  go_wp2_with fail
  refine (KR.out w2 HP1.out).mono ?_
  rintro e w3 ⟨rfl, p2⟩
  have HP2 := Lib.hid p2
  clear p2
  by_cases h1 : e1 = e2
  ·have q1 : (e1 == e2) = true := by simpa using h1
   have hb : β = true := by rw [hβ]; simp [h1]
   clear h1 hβ
   go_wp2_with fail
   go_ret2
   exact ⟨⟨β, HBT.out, by rw [hb]; first | rfl | simp⟩, HP2.out⟩
  ·have q1 : (e1 == e2) = false := by simpa using h1
   have hb : β = false := by rw [hβ]; simp [h1]
   clear h1 hβ
   go_wp2_with fail
   go_ret2
   exact ⟨⟨β, HBT.out, by rw [hb]; first | rfl | simp⟩, HP2.out⟩
 ·have k0 : (kd == 0) = false := by simp; omega
  have k1 : (kd == 1) = false := by simp; omega
  have k5 : (kd == 5) = false := by simp; omega
  have k6 : (kd == 6) = false := by simp; omega
  have k7 : (kd == 7) = true := by simp [hk]
  clear hk
  have B0 := Lib.hid (doW_act w kd l s)
  unfold doW at *
  unfold sp dp rp at *
  go_enter Tryz.func16, Tryz.ntmps16
  go_wp2_with fail
  generalize hw1 : (w.alloc (.cells #[.int .i64 kd, .int .i64 l, .string s] 31)) = w1 at *
  clear hw1
  have c0 : w1.cell? ⟨w.heap.size, 0, none⟩ = some (.int .i64 kd) := B0.out.cell_some (i := 0) rfl
  have c1 : w1.cell? ⟨w.heap.size, 1, none⟩ = some (.int .i64 l) := B0.out.cell_some (i := 1) rfl
  have c2 : w1.cell? ⟨w.heap.size, 2, none⟩ = some (.string s) := B0.out.cell_some (i := 2) rfl
  go_wp2_with fail
  refine (KP.out _ (Below.refl _ _)).mono ?_
  rintro e w2 ⟨rfl, p1⟩
  have HP1 := Lib.hid p1
  clear p1
  go_wp2_with fail
  refine (KR.out w2 HP1.out).mono ?_
  rintro e w3 ⟨rfl, p2⟩
  have HP2 := Lib.hid p2
  clear p2
  by_cases h1 : e1 = e2
  ·have q1 : (e1 == e2) = true := by simpa using h1
   have hb : β = true := by rw [hβ]; simp [h1]
   clear h1 hβ
   go_wp2_with fail
   go_ret2
   exact ⟨⟨β, HBT.out, by rw [hb]; first | rfl | simp⟩, HP2.out⟩
  ·have q1 : (e1 == e2) = false := by simpa using h1
   have hb : β = false := by rw [hβ]; simp [h1]
   clear h1 hβ
   go_wp2_with fail
   go_ret2
   exact ⟨⟨β, HBT.out, by rw [hb]; first | rfl | simp⟩, HP2.out⟩
set_option maxRecDepth 100000 in
set_option maxHeartbeats 2000000 in
theorem do_drop {w : World} {Lb b rb : Nat} (kd l : Int) (s : ByteArray) (hk : kd = 5) {P1 P2 : World → Prop} (s1 : Stays P1) (s2 : Stays P2) (HB : ∀ W, P1 W → ActAt W w.heap.size kd l s) (HB2 : ∀ W, P2 W → ActAt W w.heap.size kd l s) {e1 e2 : Int}
  (KP : ∀ W, Below (w.heap.size + 1) (doW w kd l s) W → Calls Tryz.prog 33 #[sp b, .int .i64 l] W fun e W => e = .returned (.int .i64 e1) ∧ P1 W)
  (KR : ∀ W, P1 W → Calls Tryz.prog 68 #[rp rb, .int .i64 l] W fun e W' => e = .returned (.int .i64 e2) ∧ P2 W') :
  Calls Tryz.prog 16 #[dp Lb, sp b, rp rb, .agg #[.int .i64 kd, .int .i64 l, .string s]] w fun e W => (∃ β : Bool, (e1 = e2 → β = true) ∧ e = .returned (.tuple #[sp b, .bool β])) ∧ P2 W := by
 have KP := Lib.hid KP
 have KR := Lib.hid KR
 have HB := Lib.hid HB
 have HB2 := Lib.hid HB2
 have S1 := Lib.hid s1
 have S2 := Lib.hid s2
 have SZ := Lib.hid (show (doW w kd l s).heap.size = w.heap.size + 1 from by unfold doW; simp)
 obtain ⟨β, hβ⟩ : ∃ β : Bool, β = decide (e1 = e2) := ⟨_, rfl⟩
 have HBT := Lib.hid (show e1 = e2 → β = true from fun h => by rw [hβ]; simp [h])
 clear s1 s2
 have k0 : (kd == 0) = false := by simp; omega
 have k1 : (kd == 1) = false := by simp; omega
 have k5 : (kd == 5) = true := by simp [hk]
 clear hk
 have B0 := Lib.hid (doW_act w kd l s)
 unfold doW at *
 unfold sp dp rp at *
 go_enter Tryz.func16, Tryz.ntmps16
 go_wp2_with fail
 generalize hw1 : (w.alloc (.cells #[.int .i64 kd, .int .i64 l, .string s] 31)) = w1 at *
 clear hw1
 have c0 : w1.cell? ⟨w.heap.size, 0, none⟩ = some (.int .i64 kd) := B0.out.cell_some (i := 0) rfl
 have c1 : w1.cell? ⟨w.heap.size, 1, none⟩ = some (.int .i64 l) := B0.out.cell_some (i := 1) rfl
 have c2 : w1.cell? ⟨w.heap.size, 2, none⟩ = some (.string s) := B0.out.cell_some (i := 2) rfl
 have OD : Below (w.heap.size + 1) w1 w1.drew := by have := (Below.refl w1.heap.size w1).drew; rw [SZ.out] at this; exact this
 go_wp2_with fail
 refine wp_region_held_drew (S := fun W' => W'.cell? ⟨w.heap.size, 1, none⟩ = some (.int .i64 l)) (by kernel_rfl) (c1) (fun hHeld => ?_)
 refine tkf (i := 0) (oi := ⟨some 46, _, _, _, _, _⟩) (v := ?_) rfl (by kernel_rfl) (fun _ _ _ h => h) (by assumption) ?_ ?_
 rotate_left
 ·(intro w hS; (try dsimp only at hS); go_simp; try with_reducible rfl)
 try simp only [Act.put, pa, pb, pc]
 refine tkf (i := 1) (oi := ⟨some 47, _, _, _, _, _⟩) (v := ?_) rfl (by kernel_rfl) (fun _ _ _ h => h) (by assumption) ?_ ?_
 rotate_left
 ·(intro w hS; (try dsimp only at hS); go_simp; try with_reducible rfl)
 try simp only [Act.put, pa, pb, pc]
 refine tkf (i := 2) (oi := ⟨some 48, _, _, _, _, _⟩) (v := ?_) rfl (by kernel_rfl) (fun _ _ _ h => h) (by assumption) ?_ ?_
 rotate_left
 ·(intro w hS; (try dsimp only at hS); go_simp; try with_reducible rfl)
 try simp only [Act.put, pa, pb, pc]
 refine tkf (i := 3) (oi := ⟨some 49, _, _, _, _, _⟩) (v := ?_) rfl (by kernel_rfl) (fun _ _ _ h => h) (by assumption) ?_ ?_
 rotate_left
 ·(intro w hS; (try dsimp only at hS); go_simp; try with_reducible rfl)
 try simp only [Act.put, pa, pb, pc]
 refine tkf (i := 5) (oi := ⟨some 51, _, _, _, _, _⟩) (v := ?_) rfl (by kernel_rfl) (fun _ _ _ h => h) (by assumption) ?_ ?_
 rotate_left
 ·(intro w hS; (try dsimp only at hS); go_simp; try with_reducible rfl)
 try simp only [Act.put, pa, pb, pc]
 refine tkf (i := 6) (oi := ⟨some 52, _, _, _, _, _⟩) (v := ?_) rfl (by kernel_rfl) (fun _ _ _ h => h) (by assumption) ?_ ?_
 rotate_left
 ·(intro w hS; (try dsimp only at hS); go_simp; try with_reducible rfl)
 try simp only [Act.put, pa, pb, pc]
 refine tkf (i := 7) (oi := ⟨some 53, _, _, _, _, _⟩) (v := ?_) rfl (by kernel_rfl) (fun _ _ _ h => h) (by assumption) ?_ ?_
 rotate_left
 ·(intro w hS; (try dsimp only at hS); go_simp; try with_reducible rfl)
 try simp only [Act.put, pa, pb, pc]
 refine wpAnyH_ready (rs := [4]) (by kernel_rfl) (by simp) ?_
 refine AllReadyH.cons (o := ⟨some 50, _, _, _, _, _⟩) rfl (fun K hK => ?_) AllReadyH.nil
 go_simp
 go_at_call 33
 refine (KP.out _ OD).mono ?_
 rintro e w2 ⟨rfl, p1⟩
 have HP1 := Lib.hid p1
 have B2 := Lib.hid (HB.out w2 p1)
 have d1 : w2.cell? ⟨w.heap.size, 1, none⟩ = some (.int .i64 l) := B2.out.cell_some (i := 1) rfl
 clear p1
 go_simp
 refine hK.out _ _ (d1) (fun hHeld => ?_)
 try simp only [Act.put, pa, pb, pc]
 refine wpAnyH_ready (rs := [8]) (by kernel_rfl) (by simp) ?_
 refine AllReadyH.cons (o := ⟨some 54, _, _, _, _, _⟩) rfl (fun K hK => ?_) AllReadyH.nil
 go_simp
 go_at_call 68
 refine (KR.out w2 HP1.out).mono ?_
 rintro e w3 ⟨rfl, p2⟩
 have B3 := Lib.hid (HB2.out w3 p2)
 have x1 : w3.cell? ⟨w.heap.size, 1, none⟩ = some (.int .i64 l) := B3.out.cell_some (i := 1) rfl
 have HP2 := Lib.hid p2
 clear p2
 go_simp
 refine hK.out _ _ (x1) (fun hHeld => ?_)
 try simp only [Act.put, pa, pb, pc]
 refine tkf (i := 9) (oi := ⟨some 55, _, _, _, _, _⟩) (v := ?_) rfl (by kernel_rfl) (fun _ _ _ h => h) (by assumption) ?_ ?_
 rotate_left
 ·(intro w hS; (try dsimp only at hS); go_simp; try with_reducible rfl)
 try simp only [Act.put, pa, pb, pc]
 refine tkf (i := 10) (oi := ⟨some 8, _, _, _, _, _⟩) (v := ?_) rfl (by kernel_rfl) (fun _ _ _ h => h) (by assumption) ?_ ?_
 rotate_left
 ·(intro w hS; (try dsimp only at hS); go_simp; try with_reducible rfl)
 try simp only [Act.put, pa, pb, pc]
 refine tkf (i := 11) (oi := ⟨some 9, _, _, _, _, _⟩) (v := ?_) rfl (by kernel_rfl) (fun _ _ _ h => h) (by assumption) ?_ ?_
 rotate_left
 ·(intro w hS; (try dsimp only at hS); go_simp; try with_reducible rfl)
 try simp only [Act.put, pa, pb, pc]
 refine wpAnyH_done (by kernel_rfl) ?_ _
 go_wp2_with fail
 go_ret2
 exact ⟨⟨e1 == e2, fun h => by simp [h], by first | rfl | simp⟩, HP2.out⟩
set_option maxRecDepth 100000 in
set_option maxHeartbeats 2000000 in
theorem do_write {w : World} {Lb b rb : Nat} (kd l : Int) (s : ByteArray) (hk : kd ≠ 0 ∧ kd ≠ 1 ∧ kd ≠ 5 ∧ kd ≠ 6 ∧ kd ≠ 7 ∧ kd ≠ 8 ∧ kd ≠ 9) {P1 P2 : World → Prop} (s1 : Stays P1) (s2 : Stays P2) (HB : ∀ W, P1 W → ActAt W w.heap.size kd l s) (HB2 : ∀ W, P2 W → ActAt W w.heap.size kd l s) {e1 e2 : Int}
  (KP : ∀ W, Below (w.heap.size + 1) (doW w kd l s) W → Calls Tryz.prog 32 #[sp b, .int .i64 l, .string s] W fun e W => e = .returned (.int .i64 e1) ∧ P1 W)
  (KR : ∀ W, P1 W → Calls Tryz.prog 71 #[rp rb, .int .i64 l, .string s] W fun e W' => e = .returned (.int .i64 e2) ∧ P2 W') :
  Calls Tryz.prog 16 #[dp Lb, sp b, rp rb, .agg #[.int .i64 kd, .int .i64 l, .string s]] w fun e W => (∃ β : Bool, (e1 = e2 → β = true) ∧ e = .returned (.tuple #[sp b, .bool β])) ∧ P2 W := by
 have KP := Lib.hid KP
 have KR := Lib.hid KR
 have HB := Lib.hid HB
 have HB2 := Lib.hid HB2
 have S1 := Lib.hid s1
 have S2 := Lib.hid s2
 have SZ := Lib.hid (show (doW w kd l s).heap.size = w.heap.size + 1 from by unfold doW; simp)
 obtain ⟨β, hβ⟩ : ∃ β : Bool, β = decide (e1 = e2) := ⟨_, rfl⟩
 have HBT := Lib.hid (show e1 = e2 → β = true from fun h => by rw [hβ]; simp [h])
 clear s1 s2
 have k0 : (kd == 0) = false := by simp; omega
 have k1 : (kd == 1) = false := by simp; omega
 have k5 : (kd == 5) = false := by simp; omega
 have k6 : (kd == 6) = false := by simp; omega
 have k7 : (kd == 7) = false := by simp; omega
 have k8 : (kd == 8) = false := by simp; omega
 have k9 : (kd == 9) = false := by simp; omega
 clear hk
 have B0 := Lib.hid (doW_act w kd l s)
 unfold doW at *
 unfold sp dp rp at *
 go_enter Tryz.func16, Tryz.ntmps16
 go_wp2_with fail
 generalize hw1 : (w.alloc (.cells #[.int .i64 kd, .int .i64 l, .string s] 31)) = w1 at *
 clear hw1
 have c0 : w1.cell? ⟨w.heap.size, 0, none⟩ = some (.int .i64 kd) := B0.out.cell_some (i := 0) rfl
 have c1 : w1.cell? ⟨w.heap.size, 1, none⟩ = some (.int .i64 l) := B0.out.cell_some (i := 1) rfl
 have c2 : w1.cell? ⟨w.heap.size, 2, none⟩ = some (.string s) := B0.out.cell_some (i := 2) rfl
 have OD : Below (w.heap.size + 1) w1 w1.drew := by have := (Below.refl w1.heap.size w1).drew; rw [SZ.out] at this; exact this
 go_wp2_with fail
 refine wp_region_held_drew (S := fun W' => W'.cell? ⟨w.heap.size, 1, none⟩ = some (.int .i64 l) ∧ W'.cell? ⟨w.heap.size, 2, none⟩ = some (.string s)) (by kernel_rfl) (⟨c1, c2⟩) (fun hHeld => ?_)
 refine tkf (i := 0) (oi := ⟨some 88, _, _, _, _, _⟩) (v := ?_) rfl (by kernel_rfl) (fun _ _ _ h => h) (by assumption) ?_ ?_
 rotate_left
 ·(intro w hS; (try dsimp only at hS); go_simp; try with_reducible rfl)
 try simp only [Act.put, pa, pb, pc]
 refine tkf (i := 1) (oi := ⟨some 89, _, _, _, _, _⟩) (v := ?_) rfl (by kernel_rfl) (fun _ _ _ h => h) (by assumption) ?_ ?_
 rotate_left
 ·(intro w hS; (try dsimp only at hS); go_simp; try with_reducible rfl)
 try simp only [Act.put, pa, pb, pc]
 refine tkf (i := 2) (oi := ⟨some 90, _, _, _, _, _⟩) (v := ?_) rfl (by kernel_rfl) (fun _ _ _ h => h) (by assumption) ?_ ?_
 rotate_left
 ·(intro w hS; (try dsimp only at hS); go_simp; try with_reducible rfl)
 try simp only [Act.put, pa, pb, pc]
 refine tkf (i := 3) (oi := ⟨some 91, _, _, _, _, _⟩) (v := ?_) rfl (by kernel_rfl) (fun _ _ _ h => h) (by assumption) ?_ ?_
 rotate_left
 ·(intro w hS; (try dsimp only at hS); go_simp; try with_reducible rfl)
 try simp only [Act.put, pa, pb, pc]
 refine tkf (i := 4) (oi := ⟨some 92, _, _, _, _, _⟩) (v := ?_) rfl (by kernel_rfl) (fun _ _ _ h => h) (by assumption) ?_ ?_
 rotate_left
 ·(intro w hS; (try dsimp only at hS); go_simp; try with_reducible rfl)
 try simp only [Act.put, pa, pb, pc]
 refine tkf (i := 5) (oi := ⟨some 93, _, _, _, _, _⟩) (v := ?_) rfl (by kernel_rfl) (fun _ _ _ h => h) (by assumption) ?_ ?_
 rotate_left
 ·(intro w hS; (try dsimp only at hS); go_simp; try with_reducible rfl)
 try simp only [Act.put, pa, pb, pc]
 refine tkf (i := 7) (oi := ⟨some 95, _, _, _, _, _⟩) (v := ?_) rfl (by kernel_rfl) (fun _ _ _ h => h) (by assumption) ?_ ?_
 rotate_left
 ·(intro w hS; (try dsimp only at hS); go_simp; try with_reducible rfl)
 try simp only [Act.put, pa, pb, pc]
 refine tkf (i := 8) (oi := ⟨some 96, _, _, _, _, _⟩) (v := ?_) rfl (by kernel_rfl) (fun _ _ _ h => h) (by assumption) ?_ ?_
 rotate_left
 ·(intro w hS; (try dsimp only at hS); go_simp; try with_reducible rfl)
 try simp only [Act.put, pa, pb, pc]
 refine tkf (i := 9) (oi := ⟨some 97, _, _, _, _, _⟩) (v := ?_) rfl (by kernel_rfl) (fun _ _ _ h => h) (by assumption) ?_ ?_
 rotate_left
 ·(intro w hS; (try dsimp only at hS); go_simp; try with_reducible rfl)
 try simp only [Act.put, pa, pb, pc]
 refine tkf (i := 10) (oi := ⟨some 98, _, _, _, _, _⟩) (v := ?_) rfl (by kernel_rfl) (fun _ _ _ h => h) (by assumption) ?_ ?_
 rotate_left
 ·(intro w hS; (try dsimp only at hS); go_simp; try with_reducible rfl)
 try simp only [Act.put, pa, pb, pc]
 refine tkf (i := 11) (oi := ⟨some 99, _, _, _, _, _⟩) (v := ?_) rfl (by kernel_rfl) (fun _ _ _ h => h) (by assumption) ?_ ?_
 rotate_left
 ·(intro w hS; (try dsimp only at hS); go_simp; try with_reducible rfl)
 try simp only [Act.put, pa, pb, pc]
 refine wpAnyH_ready (rs := [6]) (by kernel_rfl) (by simp) ?_
 refine AllReadyH.cons (o := ⟨some 94, _, _, _, _, _⟩) rfl (fun K hK => ?_) AllReadyH.nil
 go_simp
 go_at_call 32
 refine (KP.out _ OD).mono ?_
 rintro e w2 ⟨rfl, p1⟩
 have HP1 := Lib.hid p1
 have B2 := Lib.hid (HB.out w2 p1)
 have d1 : w2.cell? ⟨w.heap.size, 1, none⟩ = some (.int .i64 l) := B2.out.cell_some (i := 1) rfl
 have d2 : w2.cell? ⟨w.heap.size, 2, none⟩ = some (.string s) := B2.out.cell_some (i := 2) rfl
 clear p1
 go_simp
 refine hK.out _ _ (⟨d1, d2⟩) (fun hHeld => ?_)
 try simp only [Act.put, pa, pb, pc]
 refine wpAnyH_ready (rs := [12]) (by kernel_rfl) (by simp) ?_
 refine AllReadyH.cons (o := ⟨some 100, _, _, _, _, _⟩) rfl (fun K hK => ?_) AllReadyH.nil
 go_simp
 go_at_call 71
 refine (KR.out w2 HP1.out).mono ?_
 rintro e w3 ⟨rfl, p2⟩
 have B3 := Lib.hid (HB2.out w3 p2)
 have x1 : w3.cell? ⟨w.heap.size, 1, none⟩ = some (.int .i64 l) := B3.out.cell_some (i := 1) rfl
 have x2 : w3.cell? ⟨w.heap.size, 2, none⟩ = some (.string s) := B3.out.cell_some (i := 2) rfl
 have HP2 := Lib.hid p2
 clear p2
 go_simp
 refine hK.out _ _ (⟨x1, x2⟩) (fun hHeld => ?_)
 try simp only [Act.put, pa, pb, pc]
 refine tkf (i := 13) (oi := ⟨some 101, _, _, _, _, _⟩) (v := ?_) rfl (by kernel_rfl) (fun _ _ _ h => h) (by assumption) ?_ ?_
 rotate_left
 ·(intro w hS; (try dsimp only at hS); go_simp; try with_reducible rfl)
 try simp only [Act.put, pa, pb, pc]
 refine tkf (i := 14) (oi := ⟨some 8, _, _, _, _, _⟩) (v := ?_) rfl (by kernel_rfl) (fun _ _ _ h => h) (by assumption) ?_ ?_
 rotate_left
 ·(intro w hS; (try dsimp only at hS); go_simp; try with_reducible rfl)
 try simp only [Act.put, pa, pb, pc]
 refine tkf (i := 15) (oi := ⟨some 9, _, _, _, _, _⟩) (v := ?_) rfl (by kernel_rfl) (fun _ _ _ h => h) (by assumption) ?_ ?_
 rotate_left
 ·(intro w hS; (try dsimp only at hS); go_simp; try with_reducible rfl)
 try simp only [Act.put, pa, pb, pc]
 refine wpAnyH_done (by kernel_rfl) ?_ _
 go_wp2_with fail
 go_ret2
 exact ⟨⟨e1 == e2, fun h => by simp [h], by first | rfl | simp⟩, HP2.out⟩
set_option maxRecDepth 100000 in
set_option maxHeartbeats 2000000 in
theorem do_abort {w : World} {Lb b rb : Nat} (kd l : Int) (s : ByteArray) (hk : kd = 8) {P1 P2 : World → Prop}
  (KR : Calls Tryz.prog 70 #[rp rb] (doW w kd l s) fun e W' => e = .returned (.tuple #[]) ∧ P1 W')
  (KP : ∀ W, P1 W → Calls Tryz.prog 35 #[sp b] W fun e W => e = .returned (.bool true) ∧ P2 W) :
  Calls Tryz.prog 16 #[dp Lb, sp b, rp rb, .agg #[.int .i64 kd, .int .i64 l, .string s]] w fun e W => e = .returned (.tuple #[sp b, .bool true]) ∧ P2 W := by
 have KP := Lib.hid KP
 have KR := Lib.hid KR
 have k0 : (kd == 0) = false := by simp; omega
 have k1 : (kd == 1) = false := by simp; omega
 have k5 : (kd == 5) = false := by simp; omega
 have k6 : (kd == 6) = false := by simp; omega
 have k7 : (kd == 7) = false := by simp; omega
 have k8 : (kd == 8) = true := by simp [hk]
 clear hk
 have B0 := Lib.hid (doW_act w kd l s)
 unfold doW at *
 unfold sp dp rp at *
 go_enter Tryz.func16, Tryz.ntmps16
 go_wp2_with fail
 generalize hw1 : (w.alloc (.cells #[.int .i64 kd, .int .i64 l, .string s] 31)) = w1 at *
 clear hw1
 have c0 : w1.cell? ⟨w.heap.size, 0, none⟩ = some (.int .i64 kd) := B0.out.cell_some (i := 0) rfl
 go_wp2_with fail
 refine KR.out.mono ?_
 rintro e w2 ⟨rfl, p1⟩
 have HP1 := Lib.hid p1
 clear p1
 go_wp2_with fail
 refine (KP.out w2 HP1.out).mono ?_
 rintro e w3 ⟨rfl, p2⟩
 have HP2 := Lib.hid p2
 clear p2
 go_wp2_with fail
 go_ret2
 exact ⟨by first | rfl | simp, HP2.out⟩
set_option maxRecDepth 100000 in
set_option maxHeartbeats 2000000 in
theorem do_open {w : World} {Lb b rb : Nat} (kd l : Int) (s : ByteArray) (hk : kd = 9) {P1 P2 : Nat → World → Prop}
  (KP : Calls Tryz.prog 30 #[dp Lb] (doW w kd l s) fun e W => ∃ b', e = .returned (.tuple #[sp b', .int .i64 0]) ∧ P1 b' W)
  (KR : ∀ b' W, P1 b' W → Calls Tryz.prog 70 #[rp rb] W fun e W' => e = .returned (.tuple #[]) ∧ P2 b' W') :
  Calls Tryz.prog 16 #[dp Lb, sp b, rp rb, .agg #[.int .i64 kd, .int .i64 l, .string s]] w fun e W => ∃ b', e = .returned (.tuple #[sp b', .bool true]) ∧ P2 b' W := by
 have KP := Lib.hid KP
 have KR := Lib.hid KR
 have k0 : (kd == 0) = false := by simp; omega
 have k1 : (kd == 1) = false := by simp; omega
 have k5 : (kd == 5) = false := by simp; omega
 have k6 : (kd == 6) = false := by simp; omega
 have k7 : (kd == 7) = false := by simp; omega
 have k8 : (kd == 8) = false := by simp; omega
 have k9 : (kd == 9) = true := by simp [hk]
 clear hk
 have B0 := Lib.hid (doW_act w kd l s)
 unfold doW at *
 unfold sp dp rp at *
 go_enter Tryz.func16, Tryz.ntmps16
 go_wp2_with fail
 generalize hw1 : (w.alloc (.cells #[.int .i64 kd, .int .i64 l, .string s] 31)) = w1 at *
 clear hw1
 have c0 : w1.cell? ⟨w.heap.size, 0, none⟩ = some (.int .i64 kd) := B0.out.cell_some (i := 0) rfl
 go_wp2_with fail
 refine KP.out.mono ?_
 rintro e w2 ⟨b', rfl, p1⟩
 have HP1 := Lib.hid p1
 clear p1
 go_wp2_with fail
 refine (KR.out b' w2 HP1.out).mono ?_
 rintro e w3 ⟨rfl, p2⟩
 have HP2 := Lib.hid p2
 clear p2
 go_wp2_with fail
 go_ret2
 exact ⟨b', by first | rfl | simp, HP2.out⟩
end Go.Proofs.YtbelcgjbhpjnpaaGreat.Sh
