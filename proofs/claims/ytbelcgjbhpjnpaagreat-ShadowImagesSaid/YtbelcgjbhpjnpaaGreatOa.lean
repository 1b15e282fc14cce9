/- the store by its contracts: check. -/
import Derived.Test.YtbelcgjbhpjnpaaGreatSa
import Derived.Test.YtbelcgjbhpjnpaaGreatWb
import Derived.Test.YtbelcgjbhpjnpaaGreatRb
set_option linter.all false
set_option linter.unusedVariables false
set_option linter.unusedSimpArgs false
set_option maxRecDepth 100000
namespace Go.Proofs.YtbelcgjbhpjnpaaGreat.Sh
open Go.RowKit Pk Dk Pg
attribute [local go_sem ↓] Go.wp_at_zero Go.wp_at_succ
theorem ret_pg {fn : Func} {p u : Tmp} {w : World} {g : Nat} {a b c : Int} {s : ByteArray} {tmps : Array Value} (h : fn.results = #[.cell p 55, .tmp u]) (hp : tmps.getD p undef = .pointer (some ⟨g, 0, none⟩)) (B : Blk w g 55 #[.int .i64 a, .int .i64 b, .int .i64 c, .string s]) :
  (results fn tmps).run Tryz.prog w = .ok (.tuple #[.agg #[.int .i64 a, .int .i64 b, .int .i64 c, .string s], tmps.getD u undef]) w := by
 have c0 := B.cell_some (i := 0) rfl
 have c1 := B.cell_some (i := 1) rfl
 have c2 := B.cell_some (i := 2) rfl
 have c3 := B.cell_some (i := 3) rfl
 rw [results_cell_tmp h, hp]
 clear h hp B
 go_simp
theorem storeP {w : World} {g : Nat} {a b c a' b' c' : Int} {s s' : ByteArray} (B : Blk w g 55 #[.int .i64 a, .int .i64 b, .int .i64 c, .string s]) :
  Blk ((((w.setCell ⟨g, 0, none⟩ (.int .i64 a')).setCell ⟨g, 1, none⟩ (.int .i64 b')).setCell ⟨g, 2, none⟩ (.int .i64 c')).setCell ⟨g, 3, none⟩ (.string s')) g 55 #[.int .i64 a', .int .i64 b', .int .i64 c', .string s'] ∧
   Only [g] w ((((w.setCell ⟨g, 0, none⟩ (.int .i64 a')).setCell ⟨g, 1, none⟩ (.int .i64 b')).setCell ⟨g, 2, none⟩ (.int .i64 c')).setCell ⟨g, 3, none⟩ (.string s')) ∧
   w.cell? ⟨g, 0, none⟩ = some (.int .i64 a) ∧ w.cell? ⟨g, 1, none⟩ = some (.int .i64 b) ∧ w.cell? ⟨g, 2, none⟩ = some (.int .i64 c) ∧ w.cell? ⟨g, 3, none⟩ = some (.string s) ∧
   w.frozen? ⟨g, 0, none⟩ = false ∧ w.frozen? ⟨g, 1, none⟩ = false ∧ w.frozen? ⟨g, 2, none⟩ = false ∧ w.frozen? ⟨g, 3, none⟩ = false :=
 ⟨(((B.set_ 0 _).set_ 1 _).set_ 2 _).set_ 3 _, ((((Only.refl _ _).setCell (by simp) _).setCell (by simp) _).setCell (by simp) _).setCell (by simp) _, B.cell_some rfl, B.cell_some rfl, B.cell_some rfl, B.cell_some rfl, B.frozen 0 (by simp), B.frozen 1 (by simp), B.frozen 2 (by simp), B.frozen 3 (by simp)⟩
theorem only_new2 {b : Nat} {F : List Nat} {w w' : World} (o : Only (b :: F) w w') (hb : w.heap.size ≤ b) : Only F w w' := o.mono (fun x hx hlt => (List.mem_cons.1 hx).elim (fun e => by omega) id)
theorem only_sub2 {b : Nat} {F : List Nat} {w w' : World} (o : Only F w w') : Only (b :: F) w w' := o.mono (fun _ hx _ => List.mem_cons_of_mem _ hx)
theorem only_one2 {b : Nat} {F : List Nat} {w w' : World} (o : Only [b] w w') : Only (b :: F) w w' := o.mono (fun _ hx _ => by rw [List.mem_singleton.1 hx]; exact List.mem_cons_self ..)
def C.checkF (c : C) (n : Nat) (id kd : Int) : C × PG × Int :=
 if (Fm.useF c.m id).2 ≠ 0 then ({ c with m := (Fm.useF c.m id).1 }, .zero, 14)
 else if (preadF c.d n id).2 ≠ 0 then ({ c with m := (Fm.useF c.m id).1 }, .zero, badF (preadF c.d n id).2)
 else if (preadF c.d n id).1.kd ≠ kd ∨ c.ep < (preadF c.d n id).1.ep then ({ c with m := (Fm.useF c.m id).1 }, .zero, 14)
 else ({ c with m := (Fm.useF c.m id).1 }, (preadF c.d n id).1, 0)
theorem at_new {w : World} {x : X} {n : Nat} {c : C} (h : At w x n c) : w.heap.size ∉ x.fp := fun hm => by have := h.lt _ hm; omega
set_option maxRecDepth 100000 in
set_option maxHeartbeats 4000000 in
theorem check_any {w : World} {x : X} {n : Nat} {c : C} (h : At w x n c) (id kd : Int) :
  Calls Tryz.prog 96 #[sp x.b, .int .i64 id, .int .i64 kd] w fun e w' => e = .returned (.tuple #[(c.checkF n id kd).2.1.val, .int .i64 (c.checkF n id kd).2.2]) ∧ At w' x n (c.checkF n id kd).1 ∧ Only x.fp w w' := by
 have O0 := Lib.hid (belowAlloc (Below.refl w.heap.size w) (.cells #[.int .i64 0, .int .i64 0, .int .i64 0, .string ⟨#[]⟩] 55))
 have B0 := Lib.hid (Blk.new w 55 #[.int .i64 0, .int .i64 0, .int .i64 0, .string ⟨#[]⟩])
 have NQ := Lib.hid (at_new h)
 have h0 := h.below O0.out
 have f1 := h0.f1
 have KU := Lib.hid (Fm.use_any h0.hm id)
 have HM := Lib.hid (fun (W : World) (mm : Fm.MapAt W x.mb x.mg (Fm.useF c.m id).1) (ow : Only [x.mg] (w.alloc (.cells #[.int .i64 0, .int .i64 0, .int .i64 0, .string ⟨#[]⟩] 55)) W) => h0.map mm ow)
 have KR := Lib.hid (fun (W : World) (hW : At W x n { c with m := (Fm.useF c.m id).1 }) => pread_any hW.hd id)
 dsimp only at KR
 have NM := Lib.hid (show x.mg ≠ w.heap.size from fun e => NQ.out (by rw [← e]; simp [X.fp]))
 obtain ⟨R, hR⟩ : ∃ R, c.checkF n id kd = R := ⟨_, rfl⟩
 rw [hR]
 unfold C.checkF at hR
 generalize Fm.useF c.m id = U at *
 obtain ⟨um, ue⟩ := U
 dsimp only at hR KU HM KR
 have HEP := Lib.hid (fun (W : World) (hW : At W x n { c with m := um }) => hW.f5)
 dsimp only at HEP
 generalize preadF c.d n id = Q at *
 obtain ⟨⟨rid, rep, rkd, rs⟩, er⟩ := Q
 have KB := Lib.hid (fun w => bad_any er w)
 dsimp only at hR
 generalize c.ep = ep at *
 clear h h0
 unfold PG.val pageV sp Fm.mp dp at *
 dsimp only at KR
 by_cases h1 : ue = 0
 ·rw [if_neg (by simpa using h1)] at hR
  subst h1
  by_cases h2 : er = 0
  ·rw [if_neg (by simpa using h2)] at hR
   subst h2
   go_enter Tryz.func96, Tryz.ntmps96
   go_wp2_with fail
   refine KU.out.mono ?_
   rintro e w1 ⟨rfl, mm, ow⟩
   have A1 := Lib.hid (HM.out _ mm ow)
   have B1 := Lib.hid (B0.out.only ow (fun hm => NM.out (List.mem_singleton.1 hm).symm))
   have O1 := Lib.hid ((Only.of_below (S := x.fp) O0.out).trans (ow.mono (fun g hg _ => by rw [List.mem_singleton.1 hg]; simp [X.fp])))
   clear mm ow
   have f0 := A1.out.f0
   unfold dp at f0
   go_wp2_with fail
   refine (KR.out w1 A1.out).mono ?_
   rintro e w2 ⟨rfl, hb2⟩
   have A2 := Lib.hid (A1.out.below hb2)
   have B2 := Lib.hid (B1.out.below hb2 B1.out.lt)
   have O2 := Lib.hid (O1.out.trans (.of_below hb2))
   have a3 := belowAlloc (Below.refl w2.heap.size w2) (.cells #[.int .i64 rid, .int .i64 rep, .int .i64 rkd, .string ⟨rs.toArray⟩] 55)
   have A3 := Lib.hid (A2.out.below a3)
   have B3 := Lib.hid (B2.out.alloc (.cells #[.int .i64 rid, .int .i64 rep, .int .i64 rkd, .string ⟨rs.toArray⟩] 55))
   have P3 := Lib.hid (Blk.new w2 55 #[.int .i64 rid, .int .i64 rep, .int .i64 rkd, .string ⟨rs.toArray⟩])
   have O3 := Lib.hid (O2.out.trans (.of_below a3))
   clear hb2 a3
   go_wp2_with fail
   generalize hw3 : (w2.alloc (.cells #[.int .i64 rid, .int .i64 rep, .int .i64 rkd, .string ⟨rs.toArray⟩] 55)) = w3 at *
   clear hw3
   have e5 := HEP.out w3 A3.out
   have p1 : w3.cell? ⟨w2.heap.size, 1, none⟩ = some (.int .i64 rep) := P3.out.cell_some (i := 1) rfl
   have p2 : w3.cell? ⟨w2.heap.size, 2, none⟩ = some (.int .i64 rkd) := P3.out.cell_some (i := 2) rfl
   have p0 : w3.cell? ⟨w2.heap.size, 0, none⟩ = some (.int .i64 rid) := P3.out.cell_some (i := 0) rfl
   have p3 : w3.cell? ⟨w2.heap.size, 3, none⟩ = some (.string ⟨rs.toArray⟩) := P3.out.cell_some (i := 3) rfl
   by_cases h3 : rkd = kd
   ·have hq : (rkd != kd) = false := by simp [h3]
    by_cases h4 : ep < rep
    ·rw [if_pos (.inr h4)] at hR
     have hq4 : decide (ep < rep) = true := by simpa using h4
     clear h3 h4
     refine wp_region_held_drew (S := fun W' => W'.cell? ⟨x.b, 5, none⟩ = some (.int .i64 ep) ∧ W'.cell? ⟨w2.heap.size, 1, none⟩ = some (.int .i64 rep) ∧ W'.cell? ⟨w2.heap.size, 2, none⟩ = some (.int .i64 rkd)) (by kernel_rfl) (⟨e5, p1, p2⟩) (fun hHeld => ?_)
     refine tkf (i := 0) (oi := ⟨some 34, _, _, _, _, _⟩) (v := ?_) rfl (by kernel_rfl) (fun _ _ _ h => h) (by assumption) ?_ ?_
     rotate_left
     ·(intro w hS; (try dsimp only at hS); go_simp; try with_reducible rfl)
     try simp only [Act.put, pa, pb, pc]
     refine tkf (i := 1) (oi := ⟨some 35, _, _, _, _, _⟩) (v := ?_) rfl (by kernel_rfl) (fun _ _ _ h => h) (by assumption) ?_ ?_
     rotate_left
     ·(intro w hS; (try dsimp only at hS); go_simp; try with_reducible rfl)
     try simp only [Act.put, pa, pb, pc]
     refine tkf (i := 2) (oi := ⟨some 36, _, _, _, _, _⟩) (v := ?_) rfl (by kernel_rfl) (fun _ _ _ h => h) (by assumption) ?_ ?_
     rotate_left
     ·(intro w hS; (try dsimp only at hS); go_simp; try with_reducible rfl)
     try simp only [Act.put, pa, pb, pc]
     refine tkf (i := 3) (oi := ⟨some 37, _, _, _, _, _⟩) (v := ?_) rfl (by kernel_rfl) (fun _ _ _ h => h) (by assumption) ?_ ?_
     rotate_left
     ·(intro w hS; (try dsimp only at hS); go_simp; try with_reducible rfl)
     try simp only [Act.put, pa, pb, pc]
     refine tkf (i := 4) (oi := ⟨some 38, _, _, _, _, _⟩) (v := ?_) rfl (by kernel_rfl) (fun _ _ _ h => h) (by assumption) ?_ ?_
     rotate_left
     ·(intro w hS; (try dsimp only at hS); go_simp; try with_reducible rfl)
     try simp only [Act.put, pa, pb, pc]
     refine tkf (i := 5) (oi := ⟨some 39, _, _, _, _, _⟩) (v := ?_) rfl (by kernel_rfl) (fun _ _ _ h => h) (by assumption) ?_ ?_
     rotate_left
     ·(intro w hS; (try dsimp only at hS); go_simp; try with_reducible rfl)
     try simp only [Act.put, pa, pb, pc]
     refine tkf (i := 6) (oi := ⟨some 40, _, _, _, _, _⟩) (v := ?_) rfl (by kernel_rfl) (fun _ _ _ h => h) (by assumption) ?_ ?_
     rotate_left
     ·(intro w hS; (try dsimp only at hS); go_simp; try with_reducible rfl)
     try simp only [Act.put, pa, pb, pc]
     refine tkf (i := 7) (oi := ⟨some 41, _, _, _, _, _⟩) (v := ?_) rfl (by kernel_rfl) (fun _ _ _ h => h) (by assumption) ?_ ?_
     rotate_left
     ·(intro w hS; (try dsimp only at hS); go_simp; try with_reducible rfl)
     try simp only [Act.put, pa, pb, pc]
     refine tkf (i := 8) (oi := ⟨some 42, _, _, _, _, _⟩) (v := ?_) rfl (by kernel_rfl) (fun _ _ _ h => h) (by assumption) ?_ ?_
     rotate_left
     ·(intro w hS; (try dsimp only at hS); go_simp; try with_reducible rfl)
     try simp only [Act.put, pa, pb, pc]
     refine tkf (i := 9) (oi := ⟨some 43, _, _, _, _, _⟩) (v := ?_) rfl (by kernel_rfl) (fun _ _ _ h => h) (by assumption) ?_ ?_
     rotate_left
     ·(intro w hS; (try dsimp only at hS); go_simp; try with_reducible rfl)
     try simp only [Act.put, pa, pb, pc]
     refine tkf (i := 10) (oi := ⟨some 44, _, _, _, _, _⟩) (v := ?_) rfl (by kernel_rfl) (fun _ _ _ h => h) (by assumption) ?_ ?_
     rotate_left
     ·(intro w hS; (try dsimp only at hS); go_simp; try with_reducible rfl)
     try simp only [Act.put, pa, pb, pc]
     refine tkf (i := 11) (oi := ⟨some 45, _, _, _, _, _⟩) (v := ?_) rfl (by kernel_rfl) (fun _ _ _ h => h) (by assumption) ?_ ?_
     rotate_left
     ·(intro w hS; (try dsimp only at hS); go_simp; try with_reducible rfl)
     try simp only [Act.put, pa, pb, pc]
     refine tkf (i := 12) (oi := ⟨some 46, _, _, _, _, _⟩) (v := ?_) rfl (by kernel_rfl) (fun _ _ _ h => h) (by assumption) ?_ ?_
     rotate_left
     ·(intro w hS; (try dsimp only at hS); go_simp; try with_reducible rfl)
     try simp only [Act.put, pa, pb, pc]
     refine tkf (i := 13) (oi := ⟨some 33, _, _, _, _, _⟩) (v := ?_) rfl (by kernel_rfl) (fun _ _ _ h => h) (by assumption) ?_ ?_
     rotate_left
     ·(intro w hS; (try dsimp only at hS); go_simp; try with_reducible rfl)
     try simp only [Act.put, pa, pb, pc]
     refine wpAnyH_done (by kernel_rfl) ?_ _
     have A4 := Lib.hid A3.out.drew
     have B4 := Lib.hid B3.out.drew
     have O4 := Lib.hid (O3.out.trans (.of_below ((Below.refl _ _).drew)))
     generalize hw4 : w3.drew = w4 at *
     clear hw4
     obtain ⟨B9, o9, d0, d1, d2, d3, z0, z1, z2, z3⟩ := storeP (a' := 0) (b' := 0) (c' := 0) (s' := ⟨#[]⟩) B4.out
     have B9 := Lib.hid B9
     have o9 := Lib.hid o9
     go_wp2_with fail
     subst hR
     exact bodyPost_ret (ret_pg rfl rfl B9.out) rfl ⟨rfl, A4.out.only o9.out (fun g hg hm => NQ.out (by rw [← List.mem_singleton.1 hm]; exact hg)), only_new2 ((only_sub2 O4.out).trans (only_one2 o9.out)) (Nat.le_refl _)⟩
    ·rw [if_neg (fun h => h.elim (fun h => h h3) h4)] at hR
     have hq4 : decide (ep < rep) = false := by simpa using h4
     clear h3 h4
     refine wp_region_held_drew (S := fun W' => W'.cell? ⟨x.b, 5, none⟩ = some (.int .i64 ep) ∧ W'.cell? ⟨w2.heap.size, 1, none⟩ = some (.int .i64 rep) ∧ W'.cell? ⟨w2.heap.size, 2, none⟩ = some (.int .i64 rkd)) (by kernel_rfl) (⟨e5, p1, p2⟩) (fun hHeld => ?_)
     refine tkf (i := 0) (oi := ⟨some 34, _, _, _, _, _⟩) (v := ?_) rfl (by kernel_rfl) (fun _ _ _ h => h) (by assumption) ?_ ?_
     rotate_left
     ·(intro w hS; (try dsimp only at hS); go_simp; try with_reducible rfl)
     try simp only [Act.put, pa, pb, pc]
     refine tkf (i := 1) (oi := ⟨some 35, _, _, _, _, _⟩) (v := ?_) rfl (by kernel_rfl) (fun _ _ _ h => h) (by assumption) ?_ ?_
     rotate_left
     ·(intro w hS; (try dsimp only at hS); go_simp; try with_reducible rfl)
     try simp only [Act.put, pa, pb, pc]
     refine tkf (i := 2) (oi := ⟨some 36, _, _, _, _, _⟩) (v := ?_) rfl (by kernel_rfl) (fun _ _ _ h => h) (by assumption) ?_ ?_
     rotate_left
     ·(intro w hS; (try dsimp only at hS); go_simp; try with_reducible rfl)
     try simp only [Act.put, pa, pb, pc]
     refine tkf (i := 3) (oi := ⟨some 37, _, _, _, _, _⟩) (v := ?_) rfl (by kernel_rfl) (fun _ _ _ h => h) (by assumption) ?_ ?_
     rotate_left
     ·(intro w hS; (try dsimp only at hS); go_simp; try with_reducible rfl)
     try simp only [Act.put, pa, pb, pc]
     refine tkf (i := 4) (oi := ⟨some 38, _, _, _, _, _⟩) (v := ?_) rfl (by kernel_rfl) (fun _ _ _ h => h) (by assumption) ?_ ?_
     rotate_left
     ·(intro w hS; (try dsimp only at hS); go_simp; try with_reducible rfl)
     try simp only [Act.put, pa, pb, pc]
     refine tkf (i := 5) (oi := ⟨some 39, _, _, _, _, _⟩) (v := ?_) rfl (by kernel_rfl) (fun _ _ _ h => h) (by assumption) ?_ ?_
     rotate_left
     ·(intro w hS; (try dsimp only at hS); go_simp; try with_reducible rfl)
     try simp only [Act.put, pa, pb, pc]
     refine tkf (i := 6) (oi := ⟨some 40, _, _, _, _, _⟩) (v := ?_) rfl (by kernel_rfl) (fun _ _ _ h => h) (by assumption) ?_ ?_
     rotate_left
     ·(intro w hS; (try dsimp only at hS); go_simp; try with_reducible rfl)
     try simp only [Act.put, pa, pb, pc]
     refine tkf (i := 7) (oi := ⟨some 41, _, _, _, _, _⟩) (v := ?_) rfl (by kernel_rfl) (fun _ _ _ h => h) (by assumption) ?_ ?_
     rotate_left
     ·(intro w hS; (try dsimp only at hS); go_simp; try with_reducible rfl)
     try simp only [Act.put, pa, pb, pc]
     refine tkf (i := 8) (oi := ⟨some 42, _, _, _, _, _⟩) (v := ?_) rfl (by kernel_rfl) (fun _ _ _ h => h) (by assumption) ?_ ?_
     rotate_left
     ·(intro w hS; (try dsimp only at hS); go_simp; try with_reducible rfl)
     try simp only [Act.put, pa, pb, pc]
     refine tkf (i := 9) (oi := ⟨some 43, _, _, _, _, _⟩) (v := ?_) rfl (by kernel_rfl) (fun _ _ _ h => h) (by assumption) ?_ ?_
     rotate_left
     ·(intro w hS; (try dsimp only at hS); go_simp; try with_reducible rfl)
     try simp only [Act.put, pa, pb, pc]
     refine tkf (i := 10) (oi := ⟨some 44, _, _, _, _, _⟩) (v := ?_) rfl (by kernel_rfl) (fun _ _ _ h => h) (by assumption) ?_ ?_
     rotate_left
     ·(intro w hS; (try dsimp only at hS); go_simp; try with_reducible rfl)
     try simp only [Act.put, pa, pb, pc]
     refine tkf (i := 11) (oi := ⟨some 45, _, _, _, _, _⟩) (v := ?_) rfl (by kernel_rfl) (fun _ _ _ h => h) (by assumption) ?_ ?_
     rotate_left
     ·(intro w hS; (try dsimp only at hS); go_simp; try with_reducible rfl)
     try simp only [Act.put, pa, pb, pc]
     refine tkf (i := 12) (oi := ⟨some 46, _, _, _, _, _⟩) (v := ?_) rfl (by kernel_rfl) (fun _ _ _ h => h) (by assumption) ?_ ?_
     rotate_left
     ·(intro w hS; (try dsimp only at hS); go_simp; try with_reducible rfl)
     try simp only [Act.put, pa, pb, pc]
     refine tkf (i := 13) (oi := ⟨some 33, _, _, _, _, _⟩) (v := ?_) rfl (by kernel_rfl) (fun _ _ _ h => h) (by assumption) ?_ ?_
     rotate_left
     ·(intro w hS; (try dsimp only at hS); go_simp; try with_reducible rfl)
     try simp only [Act.put, pa, pb, pc]
     refine wpAnyH_done (by kernel_rfl) ?_ _
     have A4 := Lib.hid A3.out.drew
     have B4 := Lib.hid B3.out.drew
     have O4 := Lib.hid (O3.out.trans (.of_below ((Below.refl _ _).drew)))
     have p0' : w3.drew.cell? ⟨w2.heap.size, 0, none⟩ = some (.int .i64 rid) := p0
     have p1' : w3.drew.cell? ⟨w2.heap.size, 1, none⟩ = some (.int .i64 rep) := p1
     have p2' : w3.drew.cell? ⟨w2.heap.size, 2, none⟩ = some (.int .i64 rkd) := p2
     have p3' : w3.drew.cell? ⟨w2.heap.size, 3, none⟩ = some (.string ⟨rs.toArray⟩) := p3
     generalize hw4 : w3.drew = w4 at *
     clear hw4
     obtain ⟨B9, o9, d0, d1, d2, d3, z0, z1, z2, z3⟩ := storeP (a' := rid) (b' := rep) (c' := rkd) (s' := ⟨rs.toArray⟩) B4.out
     have B9 := Lib.hid B9
     have o9 := Lib.hid o9
     have zf0 : w3.frozen? ⟨w.heap.size, 0, none⟩ = false := B3.out.frozen 0 (by simp)
     have zf1 : w3.frozen? ⟨w.heap.size, 1, none⟩ = false := B3.out.frozen 1 (by simp)
     have zf2 : w3.frozen? ⟨w.heap.size, 2, none⟩ = false := B3.out.frozen 2 (by simp)
     have zf3 : w3.frozen? ⟨w.heap.size, 3, none⟩ = false := B3.out.frozen 3 (by simp)
     go_wp2_with fail
     subst hR
     exact bodyPost_ret (ret_pg rfl rfl B9.out) rfl ⟨rfl, A4.out.only o9.out (fun g hg hm => NQ.out (by rw [← List.mem_singleton.1 hm]; exact hg)), only_new2 ((only_sub2 O4.out).trans (only_one2 o9.out)) (Nat.le_refl _)⟩
   ·rw [if_pos (.inl h3)] at hR
    have hq : (rkd != kd) = true := by simpa using h3
    clear h3
    refine wp_region_held_drew (S := fun W' => W'.cell? ⟨x.b, 5, none⟩ = some (.int .i64 ep) ∧ W'.cell? ⟨w2.heap.size, 1, none⟩ = some (.int .i64 rep) ∧ W'.cell? ⟨w2.heap.size, 2, none⟩ = some (.int .i64 rkd)) (by kernel_rfl) (⟨e5, p1, p2⟩) (fun hHeld => ?_)
    refine tkf (i := 0) (oi := ⟨some 34, _, _, _, _, _⟩) (v := ?_) rfl (by kernel_rfl) (fun _ _ _ h => h) (by assumption) ?_ ?_
    rotate_left
    ·(intro w hS; (try dsimp only at hS); go_simp; try with_reducible rfl)
    try simp only [Act.put, pa, pb, pc]
    refine tkf (i := 1) (oi := ⟨some 35, _, _, _, _, _⟩) (v := ?_) rfl (by kernel_rfl) (fun _ _ _ h => h) (by assumption) ?_ ?_
    rotate_left
    ·(intro w hS; (try dsimp only at hS); go_simp; try with_reducible rfl)
    try simp only [Act.put, pa, pb, pc]
    refine tkf (i := 2) (oi := ⟨some 36, _, _, _, _, _⟩) (v := ?_) rfl (by kernel_rfl) (fun _ _ _ h => h) (by assumption) ?_ ?_
    rotate_left
    ·(intro w hS; (try dsimp only at hS); go_simp; try with_reducible rfl)
    try simp only [Act.put, pa, pb, pc]
    refine tkf (i := 3) (oi := ⟨some 37, _, _, _, _, _⟩) (v := ?_) rfl (by kernel_rfl) (fun _ _ _ h => h) (by assumption) ?_ ?_
    rotate_left
    ·(intro w hS; (try dsimp only at hS); go_simp; try with_reducible rfl)
    try simp only [Act.put, pa, pb, pc]
    refine tkf (i := 4) (oi := ⟨some 38, _, _, _, _, _⟩) (v := ?_) rfl (by kernel_rfl) (fun _ _ _ h => h) (by assumption) ?_ ?_
    rotate_left
    ·(intro w hS; (try dsimp only at hS); go_simp; try with_reducible rfl)
    try simp only [Act.put, pa, pb, pc]
    refine tks (i := 5) (oi := ⟨some 39, _, _, _, _, _⟩) rfl (by kernel_rfl) (fun _ _ _ h => h) (by assumption) ?_
    try simp only [Act.put, pa, pb, pc]
    refine tks (i := 6) (oi := ⟨some 40, _, _, _, _, _⟩) rfl (by kernel_rfl) (fun _ _ _ h => h) (by assumption) ?_
    try simp only [Act.put, pa, pb, pc]
    refine tks (i := 7) (oi := ⟨some 41, _, _, _, _, _⟩) rfl (by kernel_rfl) (fun _ _ _ h => h) (by assumption) ?_
    try simp only [Act.put, pa, pb, pc]
    refine tks (i := 8) (oi := ⟨some 42, _, _, _, _, _⟩) rfl (by kernel_rfl) (fun _ _ _ h => h) (by assumption) ?_
    try simp only [Act.put, pa, pb, pc]
    refine tks (i := 9) (oi := ⟨some 43, _, _, _, _, _⟩) rfl (by kernel_rfl) (fun _ _ _ h => h) (by assumption) ?_
    try simp only [Act.put, pa, pb, pc]
    refine tks (i := 10) (oi := ⟨some 44, _, _, _, _, _⟩) rfl (by kernel_rfl) (fun _ _ _ h => h) (by assumption) ?_
    try simp only [Act.put, pa, pb, pc]
    refine tks (i := 11) (oi := ⟨some 45, _, _, _, _, _⟩) rfl (by kernel_rfl) (fun _ _ _ h => h) (by assumption) ?_
    try simp only [Act.put, pa, pb, pc]
    refine tkf (i := 12) (oi := ⟨some 46, _, _, _, _, _⟩) (v := ?_) rfl (by kernel_rfl) (fun _ _ _ h => h) (by assumption) ?_ ?_
    rotate_left
    ·(intro w hS; (try dsimp only at hS); go_simp; try with_reducible rfl)
    try simp only [Act.put, pa, pb, pc]
    refine tkf (i := 13) (oi := ⟨some 33, _, _, _, _, _⟩) (v := ?_) rfl (by kernel_rfl) (fun _ _ _ h => h) (by assumption) ?_ ?_
    rotate_left
    ·(intro w hS; (try dsimp only at hS); go_simp; try with_reducible rfl)
    try simp only [Act.put, pa, pb, pc]
    refine wpAnyH_done (by kernel_rfl) ?_ _
    have A4 := Lib.hid A3.out.drew
    have B4 := Lib.hid B3.out.drew
    have O4 := Lib.hid (O3.out.trans (.of_below ((Below.refl _ _).drew)))
    generalize hw4 : w3.drew = w4 at *
    clear hw4
    obtain ⟨B9, o9, d0, d1, d2, d3, z0, z1, z2, z3⟩ := storeP (a' := 0) (b' := 0) (c' := 0) (s' := ⟨#[]⟩) B4.out
    have B9 := Lib.hid B9
    have o9 := Lib.hid o9
    go_wp2_with fail
    subst hR
    exact bodyPost_ret (ret_pg rfl rfl B9.out) rfl ⟨rfl, A4.out.only o9.out (fun g hg hm => NQ.out (by rw [← List.mem_singleton.1 hm]; exact hg)), only_new2 ((only_sub2 O4.out).trans (only_one2 o9.out)) (Nat.le_refl _)⟩
  ·rw [if_pos (by simpa using h2)] at hR
   have hq : (er == 0) = false := by rw [beq_eq_false_iff_ne]; exact h2
   have hq2 : (er != 0) = true := by rw [bne_iff_ne]; exact h2
   clear h2
   go_enter Tryz.func96, Tryz.ntmps96
   go_wp2_with fail
   refine KU.out.mono ?_
   rintro e w1 ⟨rfl, mm, ow⟩
   have A1 := Lib.hid (HM.out _ mm ow)
   have B1 := Lib.hid (B0.out.only ow (fun hm => NM.out (List.mem_singleton.1 hm).symm))
   have O1 := Lib.hid ((Only.of_below (S := x.fp) O0.out).trans (ow.mono (fun g hg _ => by rw [List.mem_singleton.1 hg]; simp [X.fp])))
   clear mm ow
   have f0 := A1.out.f0
   unfold dp at f0
   go_wp2_with fail
   refine (KR.out w1 A1.out).mono ?_
   rintro e w2 ⟨rfl, hb2⟩
   have A2 := Lib.hid (A1.out.below hb2)
   have B2 := Lib.hid (B1.out.below hb2 B1.out.lt)
   have O2 := Lib.hid (O1.out.trans (.of_below hb2))
   have a3 := belowAlloc (Below.refl w2.heap.size w2) (.cells #[.int .i64 rid, .int .i64 rep, .int .i64 rkd, .string ⟨rs.toArray⟩] 55)
   have A3 := Lib.hid (A2.out.below a3)
   have B3 := Lib.hid (B2.out.alloc (.cells #[.int .i64 rid, .int .i64 rep, .int .i64 rkd, .string ⟨rs.toArray⟩] 55))
   have P3 := Lib.hid (Blk.new w2 55 #[.int .i64 rid, .int .i64 rep, .int .i64 rkd, .string ⟨rs.toArray⟩])
   have O3 := Lib.hid (O2.out.trans (.of_below a3))
   clear hb2 a3
   go_wp2_with fail
   generalize hw3 : (w2.alloc (.cells #[.int .i64 rid, .int .i64 rep, .int .i64 rkd, .string ⟨rs.toArray⟩] 55)) = w3 at *
   clear hw3
   refine (KB.out _).mono ?_
   rintro e w4 ⟨rfl, rfl⟩
   obtain ⟨B9, o9, d0, d1, d2, d3, z0, z1, z2, z3⟩ := storeP (a' := 0) (b' := 0) (c' := 0) (s' := ⟨#[]⟩) B3.out
   have B9 := Lib.hid B9
   have o9 := Lib.hid o9
   go_wp2_with fail
   subst hR
   exact bodyPost_ret (ret_pg rfl rfl B9.out) rfl ⟨rfl, A3.out.only o9.out (fun g hg hm => NQ.out (by rw [← List.mem_singleton.1 hm]; exact hg)), only_new2 ((only_sub2 O3.out).trans (only_one2 o9.out)) (Nat.le_refl _)⟩
 ·rw [if_pos (by simpa using h1)] at hR
  have hq : (ue == 0) = false := by rw [beq_eq_false_iff_ne]; exact h1
  have hq2 : (ue != 0) = true := by rw [bne_iff_ne]; exact h1
  clear h1
  go_enter Tryz.func96, Tryz.ntmps96
  go_wp2_with fail
  refine KU.out.mono ?_
  rintro e w1 ⟨rfl, mm, ow⟩
  have A1 := Lib.hid (HM.out _ mm ow)
  have B1 := Lib.hid (B0.out.only ow (fun hm => NM.out (List.mem_singleton.1 hm).symm))
  have O1 := Lib.hid ((Only.of_below (S := x.fp) O0.out).trans (ow.mono (fun g hg _ => by rw [List.mem_singleton.1 hg]; simp [X.fp])))
  clear mm ow
  obtain ⟨B9, o9, d0, d1, d2, d3, z0, z1, z2, z3⟩ := storeP (a' := 0) (b' := 0) (c' := 0) (s' := ⟨#[]⟩) B1.out
  have B9 := Lib.hid B9
  have o9 := Lib.hid o9
  go_wp2_with fail
  subst hR
  exact bodyPost_ret (ret_pg rfl rfl B9.out) rfl ⟨rfl, A1.out.only o9.out (fun g hg hm => NQ.out (by rw [← List.mem_singleton.1 hm]; exact hg)), only_new2 ((only_sub2 O1.out).trans (only_one2 o9.out)) (Nat.le_refl _)⟩
end Go.Proofs.YtbelcgjbhpjnpaaGreat.Sh

/- the store by its contracts: load. -/
namespace Go.Proofs.YtbelcgjbhpjnpaaGreat.Sh
open Go.RowKit Pk Dk Pg
attribute [local go_sem ↓] Go.wp_at_zero Go.wp_at_succ exec_app
def C.loadOne (c : C) (n : Nat) (x : Int) (k : Nat) : C × Int :=
 if (c.checkF n x 1).2.2 ≠ 0 then ((c.checkF n x 1).1, (c.checkF n x 1).2.2)
 else if (List.range k).any (fun j => decide (1024 < Rt.at2 (c.checkF n x 1).2.1.s (2 * j))) = true then ((c.checkF n x 1).1, 14)
 else ({ (c.checkF n x 1).1 with table := (c.checkF n x 1).1.table ++ Rt.getF (c.checkF n x 1).2.1.s k }, 0)
def C.loadF (c : C) (n lg : Nat) : Nat → C × Int
 | 0 => (c, 0)
 | i + 1 => if (c.loadF n lg i).2 ≠ 0 then c.loadF n lg i else (c.loadF n lg i).1.loadOne n (c.parts.getD i 0) (min 116 (lg - 116 * i))
theorem loadF_succ (c : C) (n lg i : Nat) : c.loadF n lg (i + 1) = if (c.loadF n lg i).2 ≠ 0 then c.loadF n lg i else (c.loadF n lg i).1.loadOne n (c.parts.getD i 0) (min 116 (lg - 116 * i)) := rfl
theorem loadF_stop (c : C) (n lg i : Nat) (h : (c.loadF n lg i).2 ≠ 0) : ∀ k, c.loadF n lg (i + k) = c.loadF n lg i
 | 0 => rfl
 | k + 1 => by
  have ih := loadF_stop c n lg i h k
  rw [show i + (k + 1) = (i + k) + 1 by omega, loadF_succ, ih, if_pos h]
theorem check_fields (c : C) (n : Nat) (id kd : Int) : (c.checkF n id kd).1 = { c with m := (Fm.useF c.m id).1 } := by
 unfold C.checkF
 split
 ·rfl
 ·split
  ·rfl
  ·split <;> rfl
theorem pread_len {d : D} {n : Nat} {x : Int} (h : (preadF d n x).2 = 0) : (preadF d n x).1.s.length = 232 := by
 unfold preadF at h ⊢
 by_cases h1 : x < 0 ∨ (manyF n : Int) ≤ x
 ·rw [if_pos h1] at h; exact absurd h (by decide)
 rw [if_neg h1] at h ⊢
 by_cases h2 : d.down = true
 ·rw [if_pos h2] at h; exact absurd h (by decide)
 rw [if_neg h2] at h ⊢
 generalize (d.now.drop (64 * (2 + 4 * x.toNat))).take 256 = b at *
 by_cases h3 : (gotF b).2 ≠ 0
 ·rw [if_pos h3] at h; exact absurd h h3
 rw [if_neg h3] at h ⊢
 by_cases h4 : (gotF b).1.id ≠ x
 ·rw [if_pos h4] at h; exact absurd h (by decide)
 rw [if_neg h4]
 have h3 : (gotF b).2 = 0 := by omega
 unfold gotF at h3 ⊢
 by_cases g1 : b.length ≠ 256
 ·rw [if_pos g1] at h3; exact absurd h3 (by decide)
 rw [if_neg g1] at h3 ⊢
 by_cases g2 : Crc.fourL (Crc.sumF (b.drop 4)) ≠ b.take 4
 ·rw [if_pos g2] at h3; exact absurd h3 (by decide)
 rw [if_neg g2] at h3 ⊢
 by_cases g3 : okP (decG b).id (decG b).ep (decG b).kd = true
 ·rw [if_pos g3]
  show (b.drop 24).length = 232
  rw [List.length_drop]; omega
 ·rw [if_neg g3] at h3; exact absurd h3 (by decide)
theorem check_ok {c : C} {n : Nat} {id kd : Int} (h : (c.checkF n id kd).2.2 = 0) : (Fm.useF c.m id).2 = 0 ∧ (preadF c.d n id).2 = 0 ∧ (preadF c.d n id).1.kd = kd ∧ (preadF c.d n id).1.ep ≤ c.ep ∧ (c.checkF n id kd).2.1 = (preadF c.d n id).1 := by
 unfold C.checkF at h ⊢
 by_cases h1 : (Fm.useF c.m id).2 ≠ 0
 ·rw [if_pos h1] at h; exact absurd h (show ¬ (14 : Int) = 0 by decide)
 rw [if_neg h1] at h ⊢
 by_cases h2 : (preadF c.d n id).2 ≠ 0
 ·rw [if_pos h2] at h
  unfold badF at h
  split at h <;> cases h
 rw [if_neg h2] at h ⊢
 by_cases h3 : (preadF c.d n id).1.kd ≠ kd ∨ c.ep < (preadF c.d n id).1.ep
 ·rw [if_pos h3] at h; exact absurd h (show ¬ (14 : Int) = 0 by decide)
 rw [if_neg h3]
 exact ⟨by omega, by omega, by omega, by omega, rfl⟩
theorem check_len {c : C} {n : Nat} {id kd : Int} (h : (c.checkF n id kd).2.2 = 0) : (c.checkF n id kd).2.1.s.length = 232 := by
 obtain ⟨_, h2, _, _, h5⟩ := check_ok h
 rw [h5]
 exact pread_len h2
theorem loadF_fields (c : C) (n lg : Nat) : ∀ i, (c.loadF n lg i).1.d = c.d ∧ (c.loadF n lg i).1.old = c.old ∧ (c.loadF n lg i).1.parts = c.parts ∧ (c.loadF n lg i).1.ep = c.ep ∧ (c.loadF n lg i).1.slot = c.slot ∧ (c.loadF n lg i).1.broken = c.broken
 | 0 => ⟨rfl, rfl, rfl, rfl, rfl, rfl⟩
 | i + 1 => by
  have ih := loadF_fields c n lg i
  rw [loadF_succ]
  split
  ·exact ih
  ·unfold C.loadOne
   split
   ·rw [check_fields]; exact ih
   ·split
    ·rw [check_fields]; exact ih
    ·rw [check_fields]; exact ih
theorem loadF_len (c : C) (n lg : Nat) (hc : c.table = []) : ∀ i, (c.loadF n lg i).1.table.length ≤ min (116 * i) lg
 | 0 => by show c.table.length ≤ _; rw [hc]; simp
 | i + 1 => by
  have ih := loadF_len c n lg hc i
  rw [loadF_succ]
  split
  ·omega
  ·unfold C.loadOne
   split
   ·rw [check_fields]; show (c.loadF n lg i).1.table.length ≤ _; omega
   ·split
    ·rw [check_fields]; show (c.loadF n lg i).1.table.length ≤ _; omega
    ·rw [check_fields]
     show ((c.loadF n lg i).1.table ++ _).length ≤ _
     rw [List.length_append, Rt.getF_length]
     omega
section
variable {w w' : World} {x : X} {n : Nat} {c : C}
/-- numbers more in the table -/
theorem At.addL (h : At w x n c) (l : List Int) {v' : Value} (S : Sl w' 3 v' (c.table.length + l.length) (nvs' (c.table ++ l))) (ow : Only (ownS x.tv) w w') (fr : ∀ g ∈ ownS v', g ∈ ownS x.tv ∨ w.heap.size ≤ g) (hl : c.table.length + l.length ≤ 512) :
  w'.cell? ⟨x.b, 2, none⟩ = some x.tv ∧ w'.frozen? ⟨x.b, 2, none⟩ = false ∧ At (w'.setCell ⟨x.b, 2, none⟩ v') { x with tv := v' } n { c with table := c.table ++ l } ∧ Only x.fp w (w'.setCell ⟨x.b, 2, none⟩ v') ∧ ∀ g ∈ ({ x with tv := v' } : X).fp, g ∈ x.fp ∨ w.heap.size ≤ g := by
 have ne := h.ints_ne h.ht
 have B1 := h.hb.only ow ne.1
 have B2 : Blk (w'.setCell ⟨x.b, 2, none⟩ v') x.b 115 #[dp x.L.b, Fm.mp x.mb, v', x.ov, x.pv, .int .i64 c.ep, .int .i64 c.slot, .bool c.broken] := B1.set_ 2 v'
 have o2 := (Only.refl [x.b] w').setCell (p := ⟨x.b, 2, none⟩) (by simp) v'
 have D1 := h.hd.only ow ne.2.2
 have M1 := h.hm.only ow ne.2.1 h.n1
 have O1 := h.ho.only ow (fun y hy hm => h.n4 y hm hy)
 have P1 := h.hp.only ow (fun y hy hm => h.n5 y hm hy)
 have hbn : ∀ {t : TypeId} {cs : Array Value} {b : Nat}, Blk w' b t cs → t ≠ 115 → b ∉ [x.b] := by
  intro t cs b B hne hm
  simp at hm
  subst hm
  exact hne (B.inj B1).1
 have hs : ∀ {v : Value} {k : Nat} {l : List Value}, Sl w' 3 v k l → ∀ g ∈ ownS v, g ∉ [x.b] := fun S g hg => by
  obtain ⟨cs, B⟩ := sl_int S g hg
  exact hbn B (by decide)
 refine ⟨B1.cell_some rfl, B1.frozen 2 (by simp [fieldsS]), ⟨B2, D1.only o2 ?_, M1.only o2 (hbn M1.hb (by decide)) (hbn M1.hg (by decide)), ?_, O1.only o2 (hs O1), P1.only o2 (fun g hg hm => P1.far B1 (by decide) (by decide) (by rw [← List.mem_singleton.1 hm]; exact hg)), ?_, h.n2, h.n3, ?_, ?_, h.n6, by show (c.table ++ l).length ≤ 512; rw [List.length_append]; exact hl⟩, ?_, ?_⟩
 ·intro g hg
  simp only [Loc.fp, List.mem_cons, List.not_mem_nil, or_false] at hg
  rcases hg with rfl | rfl | rfl | rfl
  ·exact hbn D1.hb (by decide)
  ·exact hbn D1.hN (by decide)
  ·exact hbn D1.hO (by decide)
  ·exact hbn D1.hL (by decide)
 ·show Sl _ _ v' (c.table ++ l).length _
  rw [List.length_append]
  exact S.only o2 (hs S)
 ·exact fun hg => (fr x.mg hg).elim h.n1 (fun hge => by have := h.hm.hg.lt; omega)
 ·exact fun g hg ho => (fr g hg).elim (fun h1 => h.n4 g h1 ho) (fun hge => by have := h.ho.lt g ho; omega)
 ·exact fun g hg ho => (fr g hg).elim (fun h1 => h.n5 g h1 ho) (fun hge => by have := h.hp.lt g ho; omega)
 ·exact (ow.mono (fun g hg _ => by simp [X.fp, hg])).trans (o2.mono (fun g hg _ => by simp at hg; subst hg; simp [X.fp]))
 ·intro g hg
  simp only [X.fp, List.mem_cons, List.mem_append] at hg ⊢
  rcases hg with hg | hg | hg | ((hg | hg) | hg) | hg
  ·exact .inl (.inl hg)
  ·exact .inl (.inr (.inl hg))
  ·exact .inl (.inr (.inr (.inl hg)))
  ·exact .inl (.inr (.inr (.inr (.inl (.inl (.inl hg))))))
  ·exact (fr g hg).imp (fun h1 => .inr (.inr (.inr (.inl (.inl (.inr h1)))))) id
  ·exact .inl (.inr (.inr (.inr (.inl (.inr hg)))))
  ·exact .inl (.inr (.inr (.inr (.inr hg))))
/-- another table behind -/
structure LW (w0 w : World) (x : X) (n : Nat) (c : C) (tv : Value) : Prop where
 a : At w { x with tv := tv } n c
 o : Only x.fp w0 w
 f : ∀ g ∈ ({ x with tv := tv } : X).fp, g ∈ x.fp ∨ w0.heap.size ≤ g
theorem LW.below {w0 : World} {tv : Value} (h : LW w0 w x n c tv) (hb : Below w.heap.size w w') : LW w0 w' x n c tv := ⟨h.a.below hb, h.o.trans (.of_below hb), h.f⟩
theorem LW.step {w0 : World} {tv : Value} {c' : C} (h : LW w0 w x n c tv) (A : At w' { x with tv := tv } n c') (o : Only ({ x with tv := tv } : X).fp w w') : LW w0 w' x n c' tv :=
 ⟨A, h.o.trans_of o (fun g hg hlt => (h.f g hg).elim id (fun h => by omega)), h.f⟩
theorem LW.step2 {w0 : World} {tv tv' : Value} {c' : C} (h : LW w0 w x n c tv) (A : At w' { x with tv := tv' } n c') (o : Only ({ x with tv := tv } : X).fp w w') (f : ∀ g ∈ ({ x with tv := tv' } : X).fp, g ∈ ({ x with tv := tv } : X).fp ∨ w.heap.size ≤ g) : LW w0 w' x n c' tv' :=
 ⟨A, h.o.trans_of o (fun g hg hlt => (h.f g hg).elim id (fun h => by omega)), fun g hg => (f g hg).elim (h.f g) (fun hge => .inr (Nat.le_trans h.o.size hge))⟩
theorem LW.post {w0 : World} {tv : Value} (h : LW w0 w x n c tv) : Post w0 w x n c := ⟨{ x with tv := tv }, rfl, rfl, h.a, h.o, h.f⟩
end
end Go.Proofs.YtbelcgjbhpjnpaaGreat.Sh

/- the store by its contracts: load, walked. -/
namespace Go.Proofs.YtbelcgjbhpjnpaaGreat.Sh
open Go.RowKit Pk Dk Pg
attribute [local go_sem ↓] Go.wp_at_zero Go.wp_at_succ exec_app
theorem any_or {T : List UInt8} {k : Nat} : ((List.range k).any (fun j => decide (1024 < Rt.at2 T (2 * j))) = true ↔ ∃ j, j < k ∧ 1024 < Rt.at2 T (2 * j)) := by
 simp [List.any_eq_true, List.mem_range]
set_option maxRecDepth 100000 in
set_option maxHeartbeats 4000000 in
theorem load_any {w : World} {x : X} {n lg : Nat} {c : C} (h : At w x n c) (htb : c.table = []) (hl : lg ≤ 512) (hpl : c.parts.length = needT lg) :
  Calls Tryz.prog 95 #[sp x.b, .int .i64 (lg : Nat)] w fun e w' => e = .returned (.int .i64 (c.loadF n lg c.parts.length).2) ∧ ∃ tv, LW w w' x n (c.loadF n lg c.parts.length).1 tv := by
 have f4 := h.f4
 obtain ⟨PA, pc, hpv, hpc⟩ := h.hp.val
 rw [hpv] at f4
 have HPV := Lib.hid hpv
 have H0 := Lib.hid (show LW w w x n (c.loadF n lg 0).1 x.tv from ⟨h, Only.refl _ _, fun g hg => .inl hg⟩)
 have HL := Lib.hid (loadF_len c n lg htb)
 have HF := Lib.hid (loadF_fields c n lg)
 have HS := Lib.hid (loadF_stop c n lg)
 have HN := Lib.hid hpl
 have HSC := Lib.hid (loadF_succ c n lg)
 obtain ⟨np, hnp⟩ : ∃ np, c.parts.length = np := ⟨_, rfl⟩
 rw [hnp] at f4 HPV HN ⊢
 have HNP := Lib.hid hnp
 have np5 : np ≤ 5 := by have := HN.out; unfold needT at this; omega
 have HLG := Lib.hid hl
 have Z0 : (c.loadF n lg 0).2 = 0 := rfl
 have HZ := Lib.hid Z0
 clear h htb hpl hpv hpc hnp hl Z0
 unfold sp
 go_enter Tryz.func95, Tryz.ntmps95
 go_wp2_with fail
 go_loopw [15] (fun iv wr => ∃ i : Nat, i ≤ np ∧ iv = .int .i64 i ∧ Hid (∃ tv, LW w wr x n (c.loadF n lg i).1 tv) ∧ Hid ((c.loadF n lg i).2 = 0)) (fun iv _ => np - (intOf iv).toNat)
 case atStart => exact ⟨0, Nat.zero_le _, rfl, Lib.hid ⟨_, H0.out⟩, HZ⟩
 case round =>
  obtain ⟨i, hi, rfl, HC, HE⟩ := hrel
  by_cases h' : i < np
  ·have hiI : (i : Int) < (np : Int) := by omega
   obtain ⟨tv, A⟩ := HC.out
   obtain ⟨_, _, hpp, hee, _, _⟩ := HF.out i
   obtain ⟨g, cp, rest, hv, ⟨_, B⟩, _, _⟩ := A.a.hp.form (by rw [hpp, HNP.out]; omega)
   dsimp only at hv
   rw [HPV.out, hpp, HNP.out] at hv
   injection hv with e1 e2 e3
   subst e1 e3
   clear e2
   have cj : wr.cell? ⟨g, i, none⟩ = some (.int .i64 (c.parts.getD i 0)) := B.cell_some (by rw [hpp, List.getElem?_toArray, List.getElem?_append_left (by simp; have := HNP.out; omega), nvs'_get _ _ (by have := HNP.out; omega)])
   have hs1 := HSC.out i
   rw [if_neg (by rw [HE.out]; decide)] at hs1
   have hlen := HL.out i
   have hlg : 116 * i < lg := by have := HN.out; unfold needT at this; omega
   obtain ⟨k, hk⟩ : ∃ k, k = min 116 (lg - 116 * i) := ⟨_, rfl⟩
   rw [← hk] at hs1
   have hk1 : k ≤ 116 := by omega
   have hk2 : 1 ≤ k := by omega
   have KMIN : min (116 : Int) ((lg : Int) - (i : Int) * 116) = (k : Int) := by omega
   have KLG := HLG.out
   have e1 : IntKind.i64.wrap ((i : Int) * 116) = (i : Int) * 116 := IntWalk.i64_in _ (by omega)
   have e2 : IntKind.i64.wrap ((lg : Int) - (i : Int) * 116) = (lg : Int) - (i : Int) * 116 := IntWalk.i64_in _ (by omega)
   have HK := Lib.hid hk
   have HLEN := Lib.hid hlen
   have HS1 := Lib.hid hs1
   have HST := Lib.hid (HS.out (i + 1))
   clear hs1 hk hlen B hpp hee
   obtain ⟨ci, hci⟩ : ∃ ci, (c.loadF n lg i).1 = ci := ⟨_, rfl⟩
   rw [hci] at A HLEN HS1
   generalize c.parts.getD i 0 = pid at *
   have KC := Lib.hid (check_any A.a pid 1)
   have HA := Lib.hid A
   clear A hci
   unfold C.loadOne at HS1
   obtain ⟨Rr, hRr⟩ : ∃ Rr, ci.checkF n pid 1 = Rr := ⟨_, rfl⟩
   have hcf := check_fields ci n pid 1
   have hcl := check_len (c := ci) (n := n) (id := pid) (kd := 1)
   rw [hRr] at KC HS1 hcf hcl
   obtain ⟨c2, ⟨rid, rep, rkd, rs⟩, er⟩ := Rr
   dsimp only at hcf hcl HS1
   have HT2 := Lib.hid (show c2.table = ci.table from by rw [hcf])
   clear hRr hcf
   unfold PG.val pageV sp at KC
   dsimp only at KC
   by_cases her : er = 0
   ·subst her
    have hrs := hcl rfl
    clear hcl
    rw [if_neg (show ¬ (0 : Int) ≠ 0 by decide)] at HS1
    have KG := Lib.hid (fun W => Rt.getpart_any ⟨rs.toArray⟩ k hk1 (by show 2 * k ≤ rs.toArray.size; simp [hrs]; omega) (by show rs.toArray.size ≤ 1000000; simp [hrs]) W)
    rw [show (⟨rs.toArray⟩ : ByteArray).data.toList = rs from by simp] at KG
    have HAN := Lib.hid (any_or (T := rs) (k := k))
    clear hrs
    go_wp2_with fail
    refine KC.out.mono ?_
    rintro e w2 ⟨rfl, A2, o2⟩
    have L2 := Lib.hid (HA.out.step A2 o2)
    have a3 := belowAlloc (Below.refl w2.heap.size w2) (.cells #[.int .i64 rid, .int .i64 rep, .int .i64 rkd, .string ⟨rs.toArray⟩] 55)
    have L3 := Lib.hid (L2.out.below a3)
    clear A2 o2 a3
    go_wp2_with fail
    all_goals (have hkk := HK.out; first | rw [show Value.int IntKind.i64 ((lg : Int) - (i : Int) * 116) = .int .i64 (k : Int) from by congr 1; omega] | rw [show Value.int IntKind.i64 (116 : Int) = .int .i64 (k : Int) from by congr 1; omega])
    all_goals clear hkk
    all_goals
     generalize hw3 : (w2.alloc (.cells #[.int .i64 rid, .int .i64 rep, .int .i64 rkd, .string ⟨rs.toArray⟩] 55)) = w3 at *
     clear hw3
     refine (KG.out _).mono ?_
     rintro e w4 ⟨hx, hb4⟩
     have L4 := Lib.hid (L3.out.below hb4)
     clear hb4
     rcases hx with ⟨hbad, rfl⟩ | ⟨hgood, V, rfl, SV, fV⟩
     ·rw [if_pos (HAN.out.2 hbad)] at HS1
      have HS2 := Lib.hid (show c.loadF n lg np = (c2, 14) from by
       have := HST.out (by rw [HS1.out]; exact (show (14 : Int) ≠ 0 by decide)) (np - (i + 1))
       rw [show i + 1 + (np - (i + 1)) = np by omega] at this
       rw [this, HS1.out])
      clear hbad
      go_wp2_with fail
      go_ret
      rw [HS2.out]
      exact ⟨by first | rfl | simp, tv, L4.out⟩
     ·rw [if_neg (fun h => by
       obtain ⟨j, hj, hq⟩ := HAN.out.1 h
       have := hgood j hj
       omega)] at HS1
      have hgl : (Rt.getF rs k).length = k := Rt.getF_length rs k
      generalize Rt.getF rs k = gl at *
      have f2 := L4.out.a.f2
      dsimp only at f2
      have St := L4.out.a.ht
      dsimp only at St
      obtain ⟨V1, c1, hV, _⟩ := (Sl.of_slc SV).val
      have SV2 : Sl w4 3 (.slice V1 k c1) k (nvs' gl) := by rw [← hV]; exact Sl.of_slc SV
      have hcell : ∀ j u, (nvs' gl)[j]? = some u → ∃ a, V1 = some a ∧ w4.cell? (a.add j) = some u := by
       intro j u hu
       obtain ⟨g2, cp2, rest2, hv2, B2, _, _⟩ := SV2.form (by omega)
       injection hv2 with e1 e2 e3
       subst e1
       refine ⟨_, rfl, ?_⟩
       rw [show (⟨g2, 0, none⟩ : Addr).add j = ⟨g2, j, none⟩ by unfold Addr.add; split <;> simp_all]
       have hj := (List.getElem?_eq_some_iff.1 hu).1
       exact B2.cell_some (by rw [List.getElem?_toArray, List.getElem?_append_left hj]; exact hu)
      have htl : c2.table.length + k ≤ 512 := by
       rw [HT2.out]
       have := HLEN.out
       have := HK.out
       have := HLG.out
       omega
      obtain ⟨v', w5, ea, S5, ow5, fr5⟩ := append_sl (P := Tryz.prog) St 52 52 (.int .i64 0) 8 Tryz.underlying52 info_int2 rfl V1 k c1 (nvs' gl) (by simpa using hgl) hcell (nvs'_one gl) (by unfold maxLen; omega) (by omega)
      rw [← nvs'_append] at S5
      have S5' : Sl w5 3 v' (c2.table.length + gl.length) (nvs' (c2.table ++ gl)) := by rw [hgl]; exact S5
      obtain ⟨q5, z5, A5, o5, f5⟩ := L4.out.a.addL gl S5' ow5 fr5 (by rw [hgl]; exact htl)
      dsimp only at q5
      obtain ⟨VT, vc, hvt, _⟩ := St.val
      have L5 := Lib.hid (L4.out.step2 A5 o5 f5)
      have HE2 := Lib.hid (show (c.loadF n lg (i + 1)).2 = 0 from by rw [HS1.out])
      have HC2 := Lib.hid (show (c.loadF n lg (i + 1)).1 = { c2 with table := c2.table ++ gl } from by rw [HS1.out])
      rw [hV]
      have EA := Lib.hid ea
      have ei : IntKind.i64.wrap ((i : Int) + 1) = ((i + 1 : Nat) : Int) := IntWalk.i64_in _ (by omega)
      obtain ⟨VN, vn, hvn, _⟩ := S5'.val
      subst hvn
      rw [hvt] at f2 q5 EA
      rw [hgl] at L5
      clear SV SV2 hV hcell St S5 S5' ow5 fr5 A5 o5 f5 ea hgood fV
      go_wp2_with fail
      rw [EA.out]
      go_wp2_with fail
      go_roundw
      case rel => exact ⟨i + 1, by omega, by go_num, Lib.hid ⟨_, by rw [HC2.out]; exact L5.out⟩, HE2⟩
      case measure => simp [intOf]; omega
   ·have hq : (er != 0) = true := by rw [bne_iff_ne]; exact her
    have hq2 : (er == 0) = false := by rw [beq_eq_false_iff_ne]; exact her
    rw [if_pos her] at HS1
    have HS2 := Lib.hid (show c.loadF n lg np = (c2, er) from by
     have := HST.out (by rw [HS1.out]; exact her) (np - (i + 1))
     rw [show i + 1 + (np - (i + 1)) = np by omega] at this
     rw [this, HS1.out])
    clear her hcl
    go_wp2_with fail
    refine KC.out.mono ?_
    rintro e w2 ⟨rfl, A2, o2⟩
    have L2 := Lib.hid (HA.out.step A2 o2)
    have a3 := belowAlloc (Below.refl w2.heap.size w2) (.cells #[.int .i64 rid, .int .i64 rep, .int .i64 rkd, .string ⟨rs.toArray⟩] 55)
    have L3 := Lib.hid (L2.out.below a3)
    clear A2 o2 a3
    go_wp2_with fail
    go_ret
    rw [HS2.out]
    exact ⟨by first | rfl | simp, tv, L3.out⟩
  ·obtain rfl : i = np := by omega
   have hz := HE.out
   obtain ⟨tv, A⟩ := HC.out
   have HA := Lib.hid A
   have HZ := Lib.hid hz
   clear A hz
   go_wp2_with fail
   go_ret
   rw [HZ.out]
   exact ⟨by first | rfl | simp, tv, HA.out⟩
end Go.Proofs.YtbelcgjbhpjnpaaGreat.Sh

/- the store by its contracts: Open. -/
namespace Go.Proofs.YtbelcgjbhpjnpaaGreat.Sh
open Go.RowKit Pk Dk Pg
attribute [local go_sem ↓] Go.wp_at_zero Go.wp_at_succ
def C.scanF (c : C) (n : Nat) : Nat → C × Int
 | 0 => (c, 0)
 | i + 1 => if (c.scanF n i).2 ≠ 0 then c.scanF n i else if c.table.getD i 0 < 0 then c.scanF n i else (((c.scanF n i).1.checkF n (c.table.getD i 0) 2).1, ((c.scanF n i).1.checkF n (c.table.getD i 0) 2).2.2)
theorem scanF_succ (c : C) (n i : Nat) : c.scanF n (i + 1) = if (c.scanF n i).2 ≠ 0 then c.scanF n i else if c.table.getD i 0 < 0 then c.scanF n i else (((c.scanF n i).1.checkF n (c.table.getD i 0) 2).1, ((c.scanF n i).1.checkF n (c.table.getD i 0) 2).2.2) := rfl
theorem scanF_stop (c : C) (n i : Nat) (h : (c.scanF n i).2 ≠ 0) : ∀ k, c.scanF n (i + k) = c.scanF n i
 | 0 => rfl
 | k + 1 => by
  have ih := scanF_stop c n i h k
  rw [show i + (k + 1) = (i + k) + 1 by omega, scanF_succ, ih, if_pos h]
theorem scanF_fields (c : C) (n : Nat) : ∀ i, ∃ m, (c.scanF n i).1 = { c with m := m }
 | 0 => ⟨c.m, rfl⟩
 | i + 1 => by
  obtain ⟨m, ih⟩ := scanF_fields c n i
  rw [scanF_succ]
  split
  ·exact ⟨m, ih⟩
  ·split
   ·exact ⟨m, ih⟩
   ·rw [check_fields, ih]
    exact ⟨_, rfl⟩
def rawC (d : D) (n : Nat) (v : List UInt8) (slot : Int) : C := { d := d, m := List.replicate (pagesF n) 0, table := [], old := [], parts := Rt.natI (Rt.decP v), ep := Rt.decEp v, slot := slot, broken := false }
def C.openF (c : C) (n lg : Nat) : C × Int :=
 if (c.loadF n lg c.parts.length).2 ≠ 0 then c.loadF n lg c.parts.length
 else if ((c.loadF n lg c.parts.length).1.scanF n (c.loadF n lg c.parts.length).1.table.length).2 ≠ 0 then (c.loadF n lg c.parts.length).1.scanF n (c.loadF n lg c.parts.length).1.table.length
 else ({ ((c.loadF n lg c.parts.length).1.scanF n (c.loadF n lg c.parts.length).1.table.length).1 with old := (c.loadF n lg c.parts.length).1.table }, 0)
section
variable {w w' : World} {x : X} {n : Nat} {c : C}
/-- what Open lays at its end -/
theorem At.newO (h : At w x n c) {vo : Value} {lo : List Int} (So : Sl w 3 vo lo.length (nvs' lo)) (go : ∀ g ∈ ownS vo, g ∉ x.fp) :
  w.cell? ⟨x.b, 3, none⟩ = some x.ov ∧ w.frozen? ⟨x.b, 3, none⟩ = false ∧ At (w.setCell ⟨x.b, 3, none⟩ vo) { x with ov := vo } n { c with old := lo } ∧ Only [x.b] w (w.setCell ⟨x.b, 3, none⟩ vo) := by
 have o2 := (Only.refl [x.b] w).setCell (p := ⟨x.b, 3, none⟩) (by simp) vo
 obtain ⟨n1, n2, n3, n4⟩ := h.own_ne h.hb
 have ns : ∀ {v : Value} {k : Nat} {l : List Value}, Sl w 3 v k l → ∀ g ∈ ownS v, g ∉ [x.b] := fun S g hg hm => n4 S (by rw [← List.mem_singleton.1 hm]; exact hg)
 exact ⟨h.f3, h.fz 3 (by omega), ⟨h.hb.set_ 3 vo, h.hd.only o2 (fun g hg hm => n3 (by rw [← List.mem_singleton.1 hm]; exact hg)), h.hm.only o2 (fun hm => n1 (List.mem_singleton.1 hm).symm) (fun hm => n2 (List.mem_singleton.1 hm).symm), h.ht.only o2 (ns h.ht), So.only o2 (ns So), h.hp.only o2 (fun g hg hm => h.hp.far h.hb (by decide) (by decide) (by rw [← List.mem_singleton.1 hm]; exact hg)), h.n1, fun hg => go _ hg (by simp [X.fp]), h.n3, fun g hg hm => go g hm (by simp [X.fp, hg]), h.n5, fun g hg hm => go g hg (by simp [X.fp, hm]), h.tl⟩, o2⟩
end
theorem ivs_nat (l : List Nat) : nvs' (Rt.natI l) = Rt.ivs l := by unfold nvs' Rt.natI Rt.ivs; rw [List.map_map]; rfl
theorem decP_len (v : List UInt8) : (Rt.decP v).length = Rt.at2 (Rt.decM v) 2 := by unfold Rt.decP; simp
/-- which slot is the newest -/
def Newest (u v : List UInt8) (t : List UInt8) (k : Int) : Prop := (k = 1 ∧ t = v ∧ Rt.goodR v ∧ (Rt.goodR u → Rt.decEp u < Rt.decEp v)) ∨ (k = 0 ∧ t = u ∧ Rt.goodR u ∧ (Rt.goodR v → Rt.decEp v ≤ Rt.decEp u))
def OpenR (d : D) (n : Nat) (L : Dk.Loc) (w : World) (e : Ending) (w' : World) : Prop :=
 DiskAt w' L n d ∧ Only L.fp w w' ∧
  ((∃ t k, Newest (sec d.now 0) (sec d.now 1) t k ∧
    ((((rawC d n t k).openF n (Rt.at2 (Rt.decM t) 0)).2 ≠ 0 ∧ e = .returned (.tuple #[.pointer none, .int .i64 ((rawC d n t k).openF n (Rt.at2 (Rt.decM t) 0)).2])) ∨
     (((rawC d n t k).openF n (Rt.at2 (Rt.decM t) 0)).2 = 0 ∧ ∃ x, x.L = L ∧ e = .returned (.tuple #[sp x.b, .int .i64 0]) ∧ At w' x n ((rawC d n t k).openF n (Rt.at2 (Rt.decM t) 0)).1 ∧ ∀ g ∈ x.fp, g ∈ L.fp ∨ w.heap.size ≤ g))) ∨
   (¬ Rt.goodR (sec d.now 0) ∧ ¬ Rt.goodR (sec d.now 1) ∧ e = .returned (.tuple #[.pointer none, .int .i64 14])))
/-- Open, behind the newest root -/
structure OW (w0 w : World) (L : Dk.Loc) (x : X) (n : Nat) (c : C) : Prop where
 a : At w x n c
 l : x.L = L
 o : Only L.fp w0 w
 f : ∀ g ∈ x.fp, g ∈ L.fp ∨ w0.heap.size ≤ g
theorem OW.step {w0 w w' : World} {L : Dk.Loc} {x x' : X} {n : Nat} {c c' : C} (h : OW w0 w L x n c) (A : At w' x' n c') (hl : x'.L = x.L) (o : Only x.fp w w') (f : ∀ g ∈ x'.fp, g ∈ x.fp ∨ w.heap.size ≤ g) : OW w0 w' L x' n c' :=
 ⟨A, hl.trans h.l, h.o.trans_of o (fun g hg hlt => (h.f g hg).elim id (fun h => by omega)), fun g hg => (f g hg).elim (h.f g) (fun hge => .inr (Nat.le_trans h.o.size hge))⟩
theorem OW.below {w0 w w' : World} {L : Dk.Loc} {x : X} {n : Nat} {c : C} (h : OW w0 w L x n c) (hb : Below w.heap.size w w') : OW w0 w' L x n c := ⟨h.a.below hb, h.l, h.o.trans (.of_below hb), h.f⟩
end Go.Proofs.YtbelcgjbhpjnpaaGreat.Sh

/- the store by its contracts: Open, walked. -/
namespace Go.Proofs.YtbelcgjbhpjnpaaGreat.Sh
open Go.RowKit Pk Dk Pg
attribute [local go_sem ↓] Go.wp_at_zero Go.wp_at_succ
set_option maxRecDepth 100000 in
set_option maxHeartbeats 4000000 in
theorem open_any {w : World} {L : Dk.Loc} {n : Nat} {d : D} (h : DiskAt w L n d) (hd : d.down = false) (hn : 2 ≤ n) :
  Calls Tryz.prog 30 #[dp L.b] w (OpenR d n L w) := by
 have K0 := Dk.read_any h ((0 : Nat) : Int)
 have K1 := Dk.read_any h ((1 : Nat) : Int)
 rw [readF_up d n 0 (by omega) hd] at K0
 rw [readF_up d n 1 (by omega) hd] at K1
 have hs0 := sec_length h.ok.now (show 0 < n by omega)
 have hs1 := sec_length h.ok.now (show 1 < n by omega)
 have KN := Lib.hid (Rt.newer_any ⟨(sec d.now 0).toArray⟩ ⟨(sec d.now 1).toArray⟩ (by show (sec d.now 0).toArray.size = 64; simpa using hs0) (by show (sec d.now 1).toArray.size = 64; simpa using hs1) w)
 rw [show (⟨(sec d.now 0).toArray⟩ : ByteArray).data.toList = sec d.now 0 from by simp, show (⟨(sec d.now 1).toArray⟩ : ByteArray).data.toList = sec d.now 1 from by simp] at KN
 have HD := Lib.hid h
 have HLT := Lib.hid h.lt
 have KP := Lib.hid (fun (W : World) (hb : Below w.heap.size w W) => pages_any (h.below hb))
 have hpn : pagesF n ≤ 1024 := by unfold pagesF; omega
 have KF := Lib.hid (fun W => Fm.new_yes (pagesF n) W hpn)
 have KL := Lib.hid (fun (W : World) (x : X) (c : C) (lg : Nat) (hW : At W x n c) h1 h2 h3 => load_any (lg := lg) hW h1 h2 h3)
 have KC := Lib.hid (fun (W : World) (x : X) (c : C) (hW : At W x n c) (id : Int) => check_any hW id 2)
 have KCL := Lib.hid (fun (W : World) (v : Value) (l : List Int) (S : Sl W 3 v l.length (nvs' l)) (hl : l.length ≤ 100000) => clone_sl S hl)
 have K0 := Lib.hid K0
 have K1 := Lib.hid K1
 have HRAW := Lib.hid (show ∀ t k, (rawC d n t k).table = [] ∧ (rawC d n t k).parts = Rt.natI (Rt.decP t) ∧ (rawC d n t k).m = List.replicate (pagesF n) 0 ∧ (rawC d n t k).d = d ∧ (rawC d n t k).old = [] ∧ (rawC d n t k).ep = Rt.decEp t ∧ (rawC d n t k).slot = k ∧ (rawC d n t k).broken = false from fun t k => ⟨rfl, rfl, rfl, rfl, rfl, rfl, rfl, rfl⟩)
 have HN0 := Lib.hid (show ∀ t k, Newest (sec d.now 0) (sec d.now 1) t k = Newest (sec d.now 0) (sec d.now 1) t k from fun _ _ => rfl)
 unfold OpenR
 generalize hu0 : sec d.now 0 = u0 at *
 generalize hu1 : sec d.now 1 = u1 at *
 clear h hd hs0 hs1 hpn hu0 hu1 HN0
 generalize hpn : pagesF n = pn at *
 unfold dp sp Fm.mp at *
 go_enter Tryz.func30, Tryz.ntmps30
 go_wp2_with fail
 refine K0.out.mono ?_
 rintro e w1 ⟨rfl, rfl⟩
 go_wp2_with fail
 refine K1.out.mono ?_
 rintro e w1 ⟨rfl, rfl⟩
 go_wp2_with fail
 refine KN.out.mono ?_
 rintro e w1 ⟨hx, hb1⟩
 rcases hx with ⟨t, k, A, c, hk, rfl, HPa⟩ | ⟨g0, g1, rfl⟩
 ·have HK := Lib.hid (show Newest u0 u1 t k from hk)
  have hr : Rt.rightR (Rt.decEp t) (Rt.at2 (Rt.decM t) 0 : Nat) (Rt.natI (Rt.decP t)) := by
   rcases hk with ⟨_, rfl, hg, _⟩ | ⟨_, rfl, hg, _⟩ <;> exact hg.2.1
  obtain ⟨g, rest, hg, rfl, rfl, B⟩ := HPa
  have hdl := decP_len t
  obtain ⟨hr1, hr2, hr3, hr4, hr5, hr6⟩ := hr
  have hr5' : (Rt.decP t).length = needT (Rt.at2 (Rt.decM t) 0) := by
   rw [needF_T] at hr5
   simp [Rt.natI] at hr5
   omega
  obtain ⟨R1, R2, R3, R4, R5, R6, R7, R8⟩ := HRAW.out t k
  obtain ⟨rc, hrc⟩ : ∃ rc, rawC d n t k = rc := ⟨_, rfl⟩
  have GOAL := Lib.hid (show ∀ (e : Ending) (W' : World), (DiskAt W' L n d ∧ Only L.fp w W' ∧ (((rc.openF n (Rt.at2 (Rt.decM t) 0)).2 ≠ 0 ∧ e = .returned (.tuple #[.pointer none, .int .i64 (rc.openF n (Rt.at2 (Rt.decM t) 0)).2])) ∨
     ((rc.openF n (Rt.at2 (Rt.decM t) 0)).2 = 0 ∧ ∃ x, x.L = L ∧ e = .returned (.tuple #[.pointer (some ⟨x.b, 0, none⟩), .int .i64 0]) ∧ At W' x n (rc.openF n (Rt.at2 (Rt.decM t) 0)).1 ∧ ∀ g ∈ x.fp, g ∈ L.fp ∨ w.heap.size ≤ g))) → (DiskAt W' L n d ∧ Only L.fp w W' ∧
  ((∃ t k, Newest u0 u1 t k ∧
    ((((rawC d n t k).openF n (Rt.at2 (Rt.decM t) 0)).2 ≠ 0 ∧ e = .returned (.tuple #[.pointer none, .int .i64 ((rawC d n t k).openF n (Rt.at2 (Rt.decM t) 0)).2])) ∨
     (((rawC d n t k).openF n (Rt.at2 (Rt.decM t) 0)).2 = 0 ∧ ∃ x, x.L = L ∧ e = .returned (.tuple #[.pointer (some ⟨x.b, 0, none⟩), .int .i64 0]) ∧ At W' x n ((rawC d n t k).openF n (Rt.at2 (Rt.decM t) 0)).1 ∧ ∀ g ∈ x.fp, g ∈ L.fp ∨ w.heap.size ≤ g))) ∨
   (¬ Rt.goodR u0 ∧ ¬ Rt.goodR u1 ∧ e = .returned (.tuple #[.pointer none, .int .i64 14])))) from fun e W' h => ⟨h.1, h.2.1, .inl ⟨t, k, HK.out, by rw [hrc]; exact h.2.2⟩⟩)
  rw [hrc] at R1 R2 R3 R4 R5 R6 R7 R8
  clear hrc hk
  have hpl : rc.parts.length = needT (Rt.at2 (Rt.decM t) 0) := by rw [R2]; simpa [Rt.natI] using hr5'
  have hep := R6
  have hnv : nvs' rc.parts = Rt.ivs (Rt.decP t) := by rw [R2]; exact ivs_nat _
  have hnp : rc.parts.length = Rt.at2 (Rt.decM t) 2 := by rw [R2]; simpa [Rt.natI] using hdl
  rw [← R6]
  generalize Rt.decEp t = ep0 at *
  generalize Rt.at2 (Rt.decM t) 0 = lg at *
  generalize Rt.at2 (Rt.decM t) 2 = np at *
  generalize Rt.decP t = ps at *
  rw [← R7]
  have PL1 : Pl w1 (.slice (some ⟨g, 0, none⟩) np np) rc.parts.length (nvs' rc.parts) := by
   rw [hnp]
   by_cases h0 : np = 0
   ·exact .inl ⟨by simp [hnp], .inl ⟨_, by rw [h0], h0⟩⟩
   ·exact .inr ⟨by simp [hnp], g, np, rest, rfl, Nat.le_refl _, by omega, by rw [hnv]; exact B⟩
  have glt : g < w1.heap.size := B.lt
  unfold Rt.rootV
  have a2 := belowAlloc (Below.refl w1.heap.size w1) (.cells #[.int .i64 rc.ep, .int .i64 (lg : Int), .slice (some ⟨g, 0, none⟩) np np] 125)
  have O2 := Lib.hid (bstep hb1 a2)
  have RB0 := Blk.new w1 125 #[.int .i64 rc.ep, .int .i64 (lg : Int), .slice (some ⟨g, 0, none⟩) np np]
  have c0 := RB0.cell_some (i := 0) rfl
  have c1 := RB0.cell_some (i := 1) rfl
  have c2 := RB0.cell_some (i := 2) rfl
  have PL2 := Lib.hid (PL1.below a2)
  have RB := Lib.hid RB0
  have GL := Lib.hid (show g < (w1.alloc (.cells #[.int .i64 rc.ep, .int .i64 (lg : Int), .slice (some ⟨g, 0, none⟩) np np] 125)).heap.size ∧ w.heap.size ≤ g from ⟨by simp; omega, by omega⟩)
  have HR := Lib.hid (show rc.table = [] ∧ rc.m = List.replicate pn 0 ∧ rc.d = d ∧ rc.old = [] ∧ rc.broken = false ∧ rc.parts.length = needT lg ∧ lg ≤ 512 ∧ rc.parts.length = np from ⟨R1, R3, R4, R5, R8, hpl, by omega, hnp⟩)
  clear RB0 a2 hb1 PL1 B glt R1 R2 R3 R4 R5 R6 R7 R8 hpl hep hnv hnp hr1 hr2 hr3 hr4 hr5 hr6 hr5' hdl HRAW hg
  go_wp2_with fail
  generalize hw2 : (w1.alloc (.cells #[.int .i64 rc.ep, .int .i64 (lg : Int), .slice (some ⟨g, 0, none⟩) np np] 125)) = w2 at *
  have hsz : w2.heap.size = w1.heap.size + 1 := by rw [← hw2]; simp
  obtain ⟨sb, hsb⟩ : ∃ sb, w2.heap.size = sb := ⟨_, rfl⟩
  rw [show w1.heap.size + 1 = sb by omega]
  clear hw2
  have SB := Lib.hid (Blk.new w2 115 #[.pointer (some ⟨L.b, 0, none⟩), .pointer none, .slice none 0 0, .slice none 0 0, .slice (some ⟨g, 0, none⟩) np np, .int .i64 rc.ep, .int .i64 rc.slot, .bool false])
  rw [hsb] at SB
  have b3 := belowAlloc (Below.refl w2.heap.size w2) (.cells #[.pointer (some ⟨L.b, 0, none⟩), .pointer none, .slice none 0 0, .slice none 0 0, .slice (some ⟨g, 0, none⟩) np np, .int .i64 rc.ep, .int .i64 rc.slot, .bool false] 115)
  have O3 := Lib.hid (bstep O2.out b3)
  have PL3 := Lib.hid (PL2.out.below b3)
  have RB3 := Lib.hid (RB.out.below b3 RB.out.lt)
  have WS := Lib.hid (show w.heap.size ≤ sb ∧ w1.heap.size < sb ∧ g < sb from ⟨by rw [← hsb]; exact O2.out.size, by rw [← hsb]; exact RB.out.lt, by rw [← hsb]; exact GL.out.1⟩)
  generalize hw3 : (w2.alloc (.cells #[.pointer (some ⟨L.b, 0, none⟩), .pointer none, .slice none 0 0, .slice none 0 0, .slice (some ⟨g, 0, none⟩) np np, .int .i64 rc.ep, .int .i64 rc.slot, .bool false] 115)) = w3 at *
  have HS3 := Lib.hid (show w3.heap.size = sb + 1 from by rw [← hw3, ← hsb]; simp)
  clear hw3 b3 c0 c1 c2 hsz hsb
  refine (KP.out w3 O3.out).mono ?_
  rintro e w4 ⟨rfl, rfl⟩
  go_wp2_with fail
  refine (KF.out w3).mono ?_
  rintro e w4 ⟨mb, mg, rfl, mm, hb4, h1, h2⟩
  have SB4 := Lib.hid (SB.out.below hb4 SB.out.lt)
  have RB4 := Lib.hid (RB3.out.below hb4 RB3.out.lt)
  have q0 := SB4.out.cell_some (i := 1) rfl
  have q1 := SB4.out.frozen 1 (by simp)
  have o5 := (Only.refl [sb] w4).setCell (p := ⟨sb, 1, none⟩) (by simp) (.pointer (some ⟨mb, 0, none⟩))
  have g2 := GL.out
  have hs3 := HS3.out
  have ws := WS.out
  have PL5 := (PL3.out.below hb4).only o5 (fun y hy hm => by
   rw [List.mem_singleton.1 hm] at hy
   simp [ownS] at hy
   omega)
  have M5 := mm.only o5 (by simp; omega) (by simp; omega)
  have D5 := (HD.out.below (bstep O3.out hb4)).only o5 (fun y hy hm => by have := HLT.out y hy; simp at hm; omega)
  have X5 := Lib.hid (show OW w (w4.setCell ⟨sb, 1, none⟩ (.pointer (some ⟨mb, 0, none⟩))) L ⟨sb, L, mb, mg, .slice none 0 0, .slice none 0 0, .slice (some ⟨g, 0, none⟩) np np⟩ n rc from by
   obtain ⟨r1, r3, r4, r5, r8, r9, r10, r11⟩ := HR.out
   refine ⟨⟨?_, by rw [r4]; exact D5, by rw [r3]; exact M5, by rw [r1]; exact Sl.nil _ _, by rw [r5]; exact Sl.nil _ _, PL5, by simp [ownS], by simp [ownS], ?_, by simp [ownS], by simp [ownS], by simp [ownS], by rw [r1]; simp⟩, rfl, ?_, ?_⟩
   ·have := SB4.out.set_ 1 (.pointer (some ⟨mb, 0, none⟩))
    unfold fieldsS dp Fm.mp
    rw [r8]
    exact this
   ·intro hm
    simp [ownS] at hm
    omega
   ·exact .of_below (Below.setCell (bstep O3.out hb4) (p := ⟨sb, 1, none⟩) ws.1 (.pointer (some ⟨mb, 0, none⟩)))
   ·intro y hy
    simp only [X.fp, List.mem_cons, List.mem_append] at hy
    rcases hy with rfl | rfl | rfl | ((hy | hy) | hy) | hy
    ·exact .inr ws.1
    ·exact .inr (by omega)
    ·exact .inr (by omega)
    ·exact .inl hy
    ·simp [ownS] at hy
    ·simp [ownS] at hy
    ·simp [ownS] at hy; exact .inr (by omega))
  have c1 := (RB4.out.far (p := ⟨sb, 1, none⟩) (by simp; omega) (.pointer (some ⟨mb, 0, none⟩))).cell_some (i := 1) rfl
  clear mm hb4 h1 h2 o5 PL5 M5 D5 g2 hs3 ws
  go_wp2_with fail
  generalize hw5 : w4.setCell ⟨sb, 1, none⟩ (.pointer (some ⟨mb, 0, none⟩)) = w5 at *
  clear hw5 q0 q1
  obtain ⟨x1, hx1⟩ : ∃ x1 : X, x1 = ⟨sb, L, mb, mg, .slice none 0 0, .slice none 0 0, .slice (some ⟨g, 0, none⟩) np np⟩ := ⟨_, rfl⟩
  rw [← hx1] at X5
  have hb : sb = x1.b := by rw [hx1]
  rw [hb]
  have HB := Lib.hid hb
  clear hx1 hb c1
  have KL2 := KL.out w5 x1 rc lg X5.out.a HR.out.1 HR.out.2.2.2.2.2.2.1 HR.out.2.2.2.2.2.1
  obtain ⟨Lr, hLr⟩ : ∃ Lr, rc.loadF n lg rc.parts.length = Lr := ⟨_, rfl⟩
  have hop : rc.openF n lg = (if Lr.2 ≠ 0 then Lr else if (Lr.1.scanF n Lr.1.table.length).2 ≠ 0 then Lr.1.scanF n Lr.1.table.length else ({ (Lr.1.scanF n Lr.1.table.length).1 with old := Lr.1.table }, 0)) := by unfold C.openF; rw [hLr]
  have HF6 := loadF_fields rc n lg rc.parts.length
  rw [hLr] at KL2 HF6
  obtain ⟨c6, er⟩ := Lr
  dsimp only at KL2 hop HF6
  have HD6 := Lib.hid (show c6.d = d from HF6.1.trans HR.out.2.2.1)
  clear HF6
  have KL2 := Lib.hid KL2
  clear hLr
  by_cases her : er = 0
  ·rw [if_neg (by simpa using her)] at hop
   subst her
   refine KL2.out.mono ?_
   rintro e w6 ⟨rfl, tv, LWx⟩
   have X6 := Lib.hid (X5.out.step (x' := { x1 with tv := tv }) LWx.a rfl LWx.o LWx.f)
   clear LWx
   obtain ⟨x2, hx2⟩ : ∃ x2 : X, x2 = { x1 with tv := tv } := ⟨_, rfl⟩
   have hb2 : x1.b = x2.b := by rw [hx2]
   rw [← hx2] at X6
   rw [hb2]
   have f2 := X6.out.a.f2
   obtain ⟨VT, tc, hvt, htc⟩ := X6.out.a.ht.val
   rw [hvt] at f2
   have HVT := Lib.hid hvt
   have HOP := Lib.hid hop
   have HSC := Lib.hid (scanF_succ c6 n)
   have HST := Lib.hid (scanF_stop c6 n)
   have HFI := Lib.hid (scanF_fields c6 n)
   obtain ⟨tl, htl⟩ : ∃ tl, c6.table.length = tl := ⟨_, rfl⟩
   rw [htl] at f2 HVT HOP
   have HTL := Lib.hid htl
   have htl5 : tl ≤ 512 := by rw [← htl]; exact X6.out.a.tl
   have H0 := Lib.hid (show At w6 x2 n (c6.scanF n 0).1 ∧ Only x2.fp w6 w6 from ⟨X6.out.a, Only.refl _ _⟩)
   have HZ := Lib.hid (show (c6.scanF n 0).2 = 0 from rfl)
   clear hop hvt hx2 hb2 htl htc
   go_wp2_with fail
   go_loopw [72] (fun iv wr => ∃ i : Nat, i ≤ tl ∧ iv = .int .i64 i ∧ Hid (At wr x2 n (c6.scanF n i).1 ∧ Only x2.fp w6 wr) ∧ Hid ((c6.scanF n i).2 = 0)) (fun iv _ => tl - (intOf iv).toNat)
   case atStart => exact ⟨0, Nat.zero_le _, rfl, H0, HZ⟩
   case round =>
    obtain ⟨i, hi, rfl, HC, HE⟩ := hrel
    by_cases h' : i < tl
    ·have hiI : (i : Int) < (tl : Int) := by omega
     obtain ⟨m, hm⟩ := HFI.out i
     have hs1 := HSC.out i
     rw [if_neg (by rw [HE.out]; decide)] at hs1
     have A := HC.out.1
     rw [hm] at A hs1
     obtain ⟨g6, cp6, hv6, ck⟩ := A.tk i (by show i < c6.table.length; have := HTL.out; omega)
     rw [HVT.out] at hv6
     injection hv6 with e1 e2 e3
     subst e1 e3
     clear e2
     dsimp only at ck
     have HA := Lib.hid A
     have HS1 := Lib.hid hs1
     have HM := Lib.hid hm
     clear A hs1 hm
     generalize c6.table.getD i 0 = pid at *
     have ei : IntKind.i64.wrap ((i : Int) + 1) = ((i + 1 : Nat) : Int) := IntWalk.i64_in _ (by omega)
     by_cases hp : pid < 0
     ·have HS2 := Lib.hid (show c6.scanF n (i + 1) = c6.scanF n i from by rw [HS1.out, if_pos hp])
      go_wp2_with fail
      go_roundw
      case rel => exact ⟨i + 1, by omega, by go_num, by rw [HS2.out]; exact HC, by rw [HS2.out]; exact HE⟩
      case measure => simp [intOf]; omega
     ·rw [if_neg hp] at HS1
      have KC2 := KC.out wr x2 _ HA.out pid
      obtain ⟨Rr, hRr⟩ : ∃ Rr, ({ c6 with m := m } : C).checkF n pid 2 = Rr := ⟨_, rfl⟩
      rw [hRr] at KC2 HS1
      obtain ⟨c7, ⟨rid, rep, rkd, rs⟩, er⟩ := Rr
      dsimp only at KC2 HS1
      unfold PG.val pageV at KC2
      dsimp only at KC2
      have KC2 := Lib.hid KC2
      clear hRr
      by_cases her : er = 0
      ·subst her
       go_wp2_with fail
       refine KC2.out.mono ?_
       rintro e w7 ⟨rfl, A7, o7⟩
       have a8 := belowAlloc (Below.refl w7.heap.size w7) (.cells #[.int .i64 rid, .int .i64 rep, .int .i64 rkd, .string ⟨rs.toArray⟩] 55)
       have H8 := Lib.hid (show At (w7.alloc (.cells #[.int .i64 rid, .int .i64 rep, .int .i64 rkd, .string ⟨rs.toArray⟩] 55)) x2 n (c6.scanF n (i + 1)).1 ∧ Only x2.fp w6 (w7.alloc (.cells #[.int .i64 rid, .int .i64 rep, .int .i64 rkd, .string ⟨rs.toArray⟩] 55)) from by
        rw [HS1.out]
        exact ⟨A7.below a8, (HC.out.2.trans o7).trans (.of_below a8)⟩)
       have HE8 := Lib.hid (show (c6.scanF n (i + 1)).2 = 0 from by rw [HS1.out])
       clear A7 o7 a8
       go_wp2_with fail
       go_roundw
       case rel => exact ⟨i + 1, by omega, by go_num, H8, HE8⟩
       case measure => simp [intOf]; omega
      ·have hq : (er != 0) = true := by rw [bne_iff_ne]; exact her
       have hq2 : (er == 0) = false := by rw [beq_eq_false_iff_ne]; exact her
       have HS2 := Lib.hid (show c6.scanF n tl = (c7, er) from by
        have := HST.out (i + 1) (by rw [HS1.out]; exact her) (tl - (i + 1))
        rw [show i + 1 + (tl - (i + 1)) = tl by omega] at this
        rw [this, HS1.out])
       have HER := Lib.hid her
       clear her
       go_wp2_with fail
       refine KC2.out.mono ?_
       rintro e w7 ⟨rfl, A7, o7⟩
       have a8 := belowAlloc (Below.refl w7.heap.size w7) (.cells #[.int .i64 rid, .int .i64 rep, .int .i64 rkd, .string ⟨rs.toArray⟩] 55)
       have X8 := Lib.hid ((X6.out.step A7 rfl (HC.out.2.trans o7) (fun y hy => .inl hy)).below a8)
       clear A7 o7 a8
       go_wp2_with fail
       go_ret2
       have hd8 : c7.d = d := by
        have h7 : c7 = (c6.scanF n tl).1 := by rw [HS2.out]
        obtain ⟨m9, hm9⟩ := HFI.out tl
        rw [h7, hm9]
        exact HD6.out
       refine GOAL.out _ _ ⟨by rw [← hd8]; have := X8.out.a.hd; rwa [X8.out.l] at this, X8.out.o, .inl ?_⟩
       rw [HOP.out, HS2.out, if_pos HER.out]
       exact ⟨HER.out, by first | rfl | simp⟩
    ·obtain rfl : i = tl := by omega
     obtain ⟨m, hm⟩ := HFI.out i
     have A := HC.out.1
     rw [hm] at A
     have ft := A.f2
     rw [HVT.out] at ft
     have S0 := A.ht
     rw [HVT.out] at S0
     have KCL2 := Lib.hid (KCL.out wr _ c6.table S0 (by have := HTL.out; omega))
     have HA := Lib.hid A
     have HM := Lib.hid hm
     have HS2 := Lib.hid (show c6.scanF n i = ({ c6 with m := m }, 0) from by rw [← hm, ← HE.out])
     clear A S0 hm
     go_wp2_with fail
     refine KCL2.out.mono ?_
     rintro e w7 ⟨v', rfl, S7, hb7, fr7⟩
     obtain ⟨V7, vc7, rfl, _⟩ := S7.val
     have A7 := HA.out.below hb7
     obtain ⟨q3, z3, A8, o8⟩ := A7.newO S7 (fun y hy hm => by have := HA.out.lt y hm; have := fr7 y hy; omega)
     have X8 := Lib.hid (X6.out.step (x' := { x2 with ov := .slice V7 c6.table.length vc7 }) A8 rfl ((HC.out.2.trans (.of_below hb7)).trans (o8.mono (fun y hy _ => by rw [List.mem_singleton.1 hy]; simp [X.fp]))) (fun y hy => by
      have hsz := (HC.out.2).size
      simp only [X.fp, List.mem_cons, List.mem_append] at hy ⊢
      rcases hy with hy | hy | hy | ((hy | hy) | hy) | hy
      ·exact .inl (.inl hy)
      ·exact .inl (.inr (.inl hy))
      ·exact .inl (.inr (.inr (.inl hy)))
      ·exact .inl (.inr (.inr (.inr (.inl (.inl (.inl hy))))))
      ·exact .inl (.inr (.inr (.inr (.inl (.inl (.inr hy))))))
      ·exact .inr (by have := fr7 y hy; omega)
      ·exact .inl (.inr (.inr (.inr (.inr hy))))))
     clear S7 hb7 fr7 A7 A8 o8
     go_wp2_with fail
     go_ret2
     refine GOAL.out _ _ ⟨by have := X8.out.a.hd; rw [X8.out.l] at this; rw [← HD6.out]; exact this, X8.out.o, .inr ?_⟩
     rw [HOP.out, HS2.out, if_neg (by simp)]
     exact ⟨rfl, _, X8.out.l, by first | rfl | simp, X8.out.a, X8.out.f⟩
  ·rw [if_pos her] at hop
   have hq : (er != 0) = true := by rw [bne_iff_ne]; exact her
   have hq2 : (er == 0) = false := by rw [beq_eq_false_iff_ne]; exact her
   have HER := Lib.hid her
   have HOP := Lib.hid hop
   clear her hop
   refine KL2.out.mono ?_
   rintro e w6 ⟨rfl, tv, LWx⟩
   have X6 := Lib.hid (X5.out.step (x' := { x1 with tv := tv }) LWx.a rfl LWx.o LWx.f)
   clear LWx
   go_wp2_with fail
   go_ret2
   have hd8 : c6.d = d := HD6.out
   refine GOAL.out _ _ ⟨by rw [← hd8]; have := X6.out.a.hd; rwa [X6.out.l] at this, X6.out.o, .inl ?_⟩
   rw [HOP.out]
   exact ⟨HER.out, by first | rfl | simp⟩
 ·have G0 := Lib.hid g0
  have G1 := Lib.hid g1
  unfold Rt.rootV
  have a2 := belowAlloc (Below.refl w1.heap.size w1) (.cells #[.int .i64 0, .int .i64 0, .slice none 0 0] 125)
  have O2 := Lib.hid (bstep hb1 a2)
  clear hb1 a2 g0 g1
  go_wp2_with fail
  go_ret2
  exact ⟨HD.out.below O2.out, .of_below O2.out, .inr ⟨G0.out, G1.out, by first | rfl | simp⟩⟩
end Go.Proofs.YtbelcgjbhpjnpaaGreat.Sh
