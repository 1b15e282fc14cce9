/- the law's part: a call of both on a disk that is armed. -/
import Derived.Test.YtbelcgjbhpjnpaaGreatV5
set_option linter.all false
set_option linter.unusedVariables false
set_option linter.unusedSimpArgs false
namespace Go.Proofs.YtbelcgjbhpjnpaaGreat.Sh
open Go.RowKit Pk Dk Pg
attribute [local go_sem ↓] Go.wp_at_zero Go.wp_at_succ
theorem LS.many {w0 w : World} {x : X} {rb n : Nat} {c : C} {a : St} {α : Int} {K : Nat} {tw : Bool} (S : LS w0 w x rb n c a α K tw) : a.many = pagesF n := by
 obtain ⟨k, e⟩ := S.e
 rw [e, ← S.g.ml]
 rfl
/-- what part leaves -/
def PartR (w0 w : World) (x : X) (rb n : Nat) (c : C) (a : St) (α : Int) (K : Nat) (tw : Bool) (kd : Int) (e : Ending) (W : World) : Prop :=
 (∃ x' c' a' α', x'.L = x.L ∧ x'.b = x.b ∧ α' ≤ α ∧ e = .returned (.bool true) ∧ LS w0 W x' rb n c' a' α' (K + 1) tw) ∨
 (∃ nv ov d', e = .returned (.bool false) ∧ DiskAt W x.L n d' ∧ Gone c n kd d' ∧ RAt W rb nv ov a ∧ (∀ g ∈ rb :: (ownB nv ++ ownB ov), w0.heap.size ≤ g) ∧ Below w0.heap.size w0 W ∧ Only x.fp w W)
theorem RAt.copy {w : World} {rb : Nat} {nv ov nv' ov' : Value} {a a' : St} (h : RAt w rb nv ov a) {yb : Nat} (h' : RAt w yb nv' ov' a') (hne : yb ≠ rb) (hm : a'.many = a.many) :
  w.frozen? ⟨rb, 1, none⟩ = false ∧ w.frozen? ⟨rb, 2, none⟩ = false ∧ w.frozen? ⟨rb, 3, none⟩ = false ∧
   RAt (((w.setCell ⟨rb, 1, none⟩ nv').setCell ⟨rb, 2, none⟩ ov').setCell ⟨rb, 3, none⟩ (.int .i64 a'.ep)) rb nv' ov' a' ∧ Only [rb] w (((w.setCell ⟨rb, 1, none⟩ nv').setCell ⟨rb, 2, none⟩ ov').setCell ⟨rb, 3, none⟩ (.int .i64 a'.ep)) := by
 have o3 : Only [rb] w (((w.setCell ⟨rb, 1, none⟩ nv').setCell ⟨rb, 2, none⟩ ov').setCell ⟨rb, 3, none⟩ (.int .i64 a'.ep)) := (((Only.refl [rb] w).setCell (p := ⟨rb, 1, none⟩) (by simp) nv').setCell (p := ⟨rb, 2, none⟩) (by simp) ov').setCell (p := ⟨rb, 3, none⟩) (by simp) _
 have hn : rb ∉ ownB nv' := slc_ne h'.hn h.hb (by decide)
 have ho : rb ∉ ownB ov' := slc_ne h'.ho h.hb (by decide)
 have hb := ((h.hb.set_ 1 nv').set_ 2 ov').set_ 3 (.int .i64 a'.ep)
 refine ⟨h.hb.frozen 1 (by simp), h.hb.frozen 2 (by simp), h.hb.frozen 3 (by simp), ⟨?_, h'.hn.only o3 (fun g hg hm => hn (by rw [← List.mem_singleton.1 hm]; exact hg)), h'.ho.only o3 (fun g hg hm => ho (by rw [← List.mem_singleton.1 hm]; exact hg)), h'.ln, h'.lo, h'.lm, h'.le⟩, o3⟩
 rw [hm]
 exact hb
set_option maxRecDepth 100000 in
set_option maxHeartbeats 4000000 in
theorem LS.part {w0 w : World} {x : X} {rb n : Nat} {c : C} {a : St} {α : Int} {K : Nat} {tw : Bool} (S : LS w0 w x rb n c a α K tw) (kd l : Int) (s : ByteArray) (hs : s.size ≤ 1000000) (hK : K ≤ 999) (h9 : kd ≠ 9) :
  Calls Tryz.prog 21 #[dp x.L.b, sp x.b, rp rb, .agg #[.int .i64 kd, .int .i64 l, .string s]] w (PartR w0 w x rb n c a α K tw kd) := by
 obtain ⟨nv, ov, R, fr⟩ := S.rt
 obtain ⟨A1, k1, q1, rfl⟩ : ∃ A k q, nv = .slice A k q := by obtain ⟨A, q, e⟩ := R.hn.val; exact ⟨A, _, q, e⟩
 obtain ⟨A2, k2, q2, rfl⟩ : ∃ A k q, ov = .slice A k q := by obtain ⟨A, q, e⟩ := R.ho.val; exact ⟨A, _, q, e⟩
 obtain ⟨w1, hw1⟩ : ∃ w1, doW w kd l s = w1 := ⟨_, rfl⟩
 have B1 := doW_act w kd l s
 have b1 := doW_below w kd l s
 rw [hw1] at B1 b1
 have hsz : w1.heap.size = w.heap.size + 1 := by rw [← hw1]; unfold doW; simp
 have R1 := R.below b1
 have g0 := R1.f0
 have g1 := R1.f1
 have g2 := R1.f2
 have g3 := R1.f3
 obtain ⟨w2, hw2⟩ : ∃ w2, (w1.alloc (.cells #[.int .i64 (a.many : Nat), (.slice A1 k1 q1), (.slice A2 k2 q2), .int .i64 a.ep, .bool false] 47)).drew = w2 := ⟨_, rfl⟩
 have b2' := (Rt.belowAlloc (Below.refl w1.heap.size w1) (.cells #[.int .i64 (a.many : Nat), (.slice A1 k1 q1), (.slice A2 k2 q2), .int .i64 a.ep, .bool false] 47)).drew
 have Y2 : Blk w2 w1.heap.size 47 #[.int .i64 (a.many : Nat), (.slice A1 k1 q1), (.slice A2 k2 q2), .int .i64 a.ep, .bool false] := by
  rw [← hw2]
  exact (Blk.new w1 47 #[.int .i64 (a.many : Nat), (.slice A1 k1 q1), (.slice A2 k2 q2), .int .i64 a.ep, .bool false]).drew
 rw [hw2] at b2'
 have b2 := bstep b1 b2'
 have R2 := R.below b2
 have hne : w1.heap.size ≠ rb := by have := R.hb.lt; omega
 have S2 : LS w0 w2 x w1.heap.size n c a α K tw := by
  have S' := S.below b2
  refine ⟨S'.at_, ⟨(.slice A1 k1 q1), (.slice A2 k2 q2), ⟨Y2, R2.hn, R2.ho, R2.ln, R2.lo, R2.lm, R2.le⟩, fun g hg => ?_⟩, S'.b0, S'.fr, S'.g, S'.R, S'.T, S'.h0, S'.e, S'.al, S'.bc, S'.be⟩
  rcases List.mem_cons.1 hg with rfl | hg
  ·have := S.b0.size; omega
  ·exact fr g (List.mem_cons_of_mem _ hg)
 have BA2 : ActAt w2 w.heap.size kd l s := Blk.below B1 b2' B1.lt
 have KD := Lib.hid (S2.do_any kd l s hs hK (fun h => absurd h h9))
 have HB0 := Lib.hid (fun (W : World) (hW : Below w0.heap.size w0 W) => hW)
 have HR := Lib.hid R2
 have HFR := Lib.hid fr
 have HS := Lib.hid S2
 have c0 : w2.cell? ⟨w.heap.size, 0, none⟩ = some (.int .i64 kd) := BA2.cell_some (i := 0) rfl
 have c1 : w2.cell? ⟨w.heap.size, 1, none⟩ = some (.int .i64 l) := BA2.cell_some (i := 1) rfl
 have c2 : w2.cell? ⟨w.heap.size, 2, none⟩ = some (.string s) := BA2.cell_some (i := 2) rfl
 have HM := Lib.hid S2.many
 have HOLD := Lib.hid (show ∀ (S : World → Prop), (∀ W, Below w1.heap.size w1 W → S W) → S w1.drew ∧ S (w1.alloc (.cells #[.int .i64 (a.many : Nat), (.slice A1 k1 q1), (.slice A2 k2 q2), .int .i64 a.ep, .bool false] 47)).drew from fun S h => ⟨h _ (Below.refl _ _).drew, h _ (by rw [hw2]; exact b2')⟩)
 have HC := Lib.hid (fun (W : World) (hW : Below w1.heap.size w1 W) => (show W.cell? ⟨rb, 0, none⟩ = some (.int .i64 (a.many : Nat)) ∧ W.cell? ⟨rb, 1, none⟩ = some (.slice A1 k1 q1) ∧ W.cell? ⟨rb, 2, none⟩ = some (.slice A2 k2 q2) ∧ W.cell? ⟨rb, 3, none⟩ = some (.int .i64 a.ep) from ⟨(R1.below hW).f0, (R1.below hW).f1, (R1.below hW).f2, (R1.below hW).f3⟩))
 have HW2 := Lib.hid hw2
 have HO2 := Lib.hid (show ∀ W, Only (w1.heap.size :: x.fp) w2 W → Only x.fp w W from fun W h => (Only.of_below (S := x.fp) b2).trans_of h (fun g hg hlt => (List.mem_cons.1 hg).elim (fun e => by omega) id))
 have HNY := Lib.hid (show ∀ g ∈ rb :: (ownB (.slice A1 k1 q1) ++ ownB (.slice A2 k2 q2)), g ≠ w1.heap.size from fun g hg => by have := R1.lt g hg; omega)
 have HSZ := Lib.hid (show w0.heap.size ≤ w1.heap.size from by have := S.b0.size; omega)
 unfold PartR
 obtain ⟨yb, hyb⟩ : ∃ yb, w1.heap.size = yb := ⟨_, rfl⟩
 rw [hyb] at KD hne HS HNY HO2
 have HY := Lib.hid hyb
 unfold doW at hw1
 clear S S2 R R1 R2 fr B1 b1 b2 b2' Y2 BA2 hw2 hsz hyb g0 g1 g2 g3
 unfold dp sp rp at *
 go_enter Tryz.func21, Tryz.ntmps21
 go_wp2_with fail
 clear hw1
 refine wp_region_held_drew (S := fun W' => W'.cell? ⟨rb, 0, none⟩ = some (.int .i64 (a.many : Nat)) ∧ W'.cell? ⟨rb, 1, none⟩ = some (.slice A1 k1 q1) ∧ W'.cell? ⟨rb, 2, none⟩ = some (.slice A2 k2 q2) ∧ W'.cell? ⟨rb, 3, none⟩ = some (.int .i64 a.ep)) (by kernel_rfl) ((HOLD.out _ HC.out).1) (fun hHeld => ?_)
 refine tkf (i := 0) (oi := ⟨some 10, _, _, _, _, _⟩) (v := ?_) rfl (by kernel_rfl) (fun _ _ _ h => h) (by assumption) ?_ ?_
 rotate_left
 ·(intro w hSw; (try dsimp only at hSw); go_simp; (try (with_reducible rfl)))
 try simp only [Act.put, List.setIfInBounds_toArray, List.set_cons_zero, List.set_cons_succ]
 refine tkf (i := 1) (oi := ⟨some 11, _, _, _, _, _⟩) (v := ?_) rfl (by kernel_rfl) (fun _ _ _ h => h) (by assumption) ?_ ?_
 rotate_left
 ·(intro w hSw; (try dsimp only at hSw); go_simp; (try (with_reducible rfl)))
 try simp only [Act.put, List.setIfInBounds_toArray, List.set_cons_zero, List.set_cons_succ]
 refine tkf (i := 2) (oi := ⟨some 12, _, _, _, _, _⟩) (v := ?_) rfl (by kernel_rfl) (fun _ _ _ h => h) (by assumption) ?_ ?_
 rotate_left
 ·(intro w hSw; (try dsimp only at hSw); go_simp; (try (with_reducible rfl)))
 try simp only [Act.put, List.setIfInBounds_toArray, List.set_cons_zero, List.set_cons_succ]
 refine tkf (i := 3) (oi := ⟨some 13, _, _, _, _, _⟩) (v := ?_) rfl (by kernel_rfl) (fun _ _ _ h => h) (by assumption) ?_ ?_
 rotate_left
 ·(intro w hSw; (try dsimp only at hSw); go_simp; (try (with_reducible rfl)))
 try simp only [Act.put, List.setIfInBounds_toArray, List.set_cons_zero, List.set_cons_succ]
 refine tkf (i := 4) (oi := ⟨some 14, _, _, _, _, _⟩) (v := ?_) rfl (by kernel_rfl) (fun _ _ _ h => h) (by assumption) ?_ ?_
 rotate_left
 ·(intro w hSw; (try dsimp only at hSw); go_simp; (try (with_reducible rfl)))
 try simp only [Act.put, List.setIfInBounds_toArray, List.set_cons_zero, List.set_cons_succ]
 refine tkf (i := 5) (oi := ⟨some 15, _, _, _, _, _⟩) (v := ?_) rfl (by kernel_rfl) (fun _ _ _ h => h) (by assumption) ?_ ?_
 rotate_left
 ·(intro w hSw; (try dsimp only at hSw); go_simp; (try (with_reducible rfl)))
 try simp only [Act.put, List.setIfInBounds_toArray, List.set_cons_zero, List.set_cons_succ]
 refine tkf (i := 6) (oi := ⟨some 16, _, _, _, _, _⟩) (v := ?_) rfl (by kernel_rfl) (fun _ _ _ h => h) (by assumption) ?_ ?_
 rotate_left
 ·(intro w hSw; (try dsimp only at hSw); go_simp; (try (with_reducible rfl)))
 try simp only [Act.put, List.setIfInBounds_toArray, List.set_cons_zero, List.set_cons_succ]
 refine tkf (i := 7) (oi := ⟨some 17, _, _, _, _, _⟩) (v := ?_) rfl (by kernel_rfl) (fun _ _ _ h => h) (by assumption) ?_ ?_
 rotate_left
 ·(intro w hSw; (try dsimp only at hSw); go_simp; (try (with_reducible rfl)))
 try simp only [Act.put, List.setIfInBounds_toArray, List.set_cons_zero, List.set_cons_succ]
 refine tkf (i := 8) (oi := ⟨some 18, _, _, _, _, _⟩) (v := ?_) rfl (by kernel_rfl) (fun _ _ _ h => h) (by assumption) ?_ ?_
 rotate_left
 ·(intro w hSw; (try dsimp only at hSw); go_simp; (try (with_reducible rfl)))
 try simp only [Act.put, List.setIfInBounds_toArray, List.set_cons_zero, List.set_cons_succ]
 refine tkf (i := 9) (oi := ⟨some 19, _, _, _, _, _⟩) (v := ?_) rfl (by kernel_rfl) (fun _ _ _ h => h) (by assumption) ?_ ?_
 rotate_left
 ·(intro w hSw; (try dsimp only at hSw); go_simp; (try (with_reducible rfl)))
 try simp only [Act.put, List.setIfInBounds_toArray, List.set_cons_zero, List.set_cons_succ]
 refine tkf (i := 10) (oi := ⟨some 20, _, _, _, _, _⟩) (v := ?_) rfl (by kernel_rfl) (fun _ _ _ h => h) (by assumption) ?_ ?_
 rotate_left
 ·(intro w hSw; (try dsimp only at hSw); go_simp; (try (with_reducible rfl)))
 try simp only [Act.put, List.setIfInBounds_toArray, List.set_cons_zero, List.set_cons_succ]
 refine tkf (i := 11) (oi := ⟨some 21, _, _, _, _, _⟩) (v := ?_) rfl (by kernel_rfl) (fun _ _ _ h => h) (by assumption) ?_ ?_
 rotate_left
 ·(intro w hSw; (try dsimp only at hSw); go_simp; (try (with_reducible rfl)))
 try simp only [Act.put, List.setIfInBounds_toArray, List.set_cons_zero, List.set_cons_succ]
 refine tkf (i := 12) (oi := ⟨some 22, _, _, _, _, _⟩) (v := ?_) rfl (by kernel_rfl) (fun _ _ _ h => h) (by assumption) ?_ ?_
 rotate_left
 ·(intro w hSw; (try dsimp only at hSw); go_simp; (try (with_reducible rfl)))
 try simp only [Act.put, List.setIfInBounds_toArray, List.set_cons_zero, List.set_cons_succ]
 refine tkf (i := 13) (oi := ⟨some 23, _, _, _, _, _⟩) (v := ?_) rfl (by kernel_rfl) (fun _ _ _ h => h) (by assumption) ?_ ?_
 rotate_left
 ·(intro w hSw; (try dsimp only at hSw); go_simp; (try (with_reducible rfl)))
 try simp only [Act.put, List.setIfInBounds_toArray, List.set_cons_zero, List.set_cons_succ]
 refine tkf (i := 14) (oi := ⟨some 24, _, _, _, _, _⟩) (v := ?_) rfl (by kernel_rfl) (fun _ _ _ h => h) (by assumption) ?_ ?_
 rotate_left
 ·(intro w hSw; (try dsimp only at hSw); go_simp; (try (with_reducible rfl)))
 try simp only [Act.put, List.setIfInBounds_toArray, List.set_cons_zero, List.set_cons_succ]
 refine tkf (i := 15) (oi := ⟨some 25, _, _, _, _, _⟩) (v := ?_) rfl (by kernel_rfl) (fun _ _ _ h => h) (by assumption) ?_ ?_
 rotate_left
 ·(intro w hSw; (try dsimp only at hSw); go_simp; (try (with_reducible rfl)))
 try simp only [Act.put, List.setIfInBounds_toArray, List.set_cons_zero, List.set_cons_succ]
 refine tkf (i := 16) (oi := ⟨some 26, _, _, _, _, _⟩) (v := ?_) rfl (by kernel_rfl) (fun _ _ _ h => h) (by assumption) ?_ ?_
 rotate_left
 ·(intro w hSw; (try dsimp only at hSw); go_simp; (try (with_reducible rfl)))
 try simp only [Act.put, List.setIfInBounds_toArray, List.set_cons_zero, List.set_cons_succ]
 refine wpAnyH_ready (rs := [17]) (by kernel_rfl) (by simp) ?_
 refine AllReadyH.cons (o := ⟨some 27, _, _, _, _, _⟩) rfl (fun Kz hK => ?_) AllReadyH.nil
 go_simp
 refine hK.out _ _ ((HOLD.out _ HC.out).2) (fun hHeld => ?_)
 try simp only [Act.put, List.setIfInBounds_toArray, List.set_cons_zero, List.set_cons_succ]
 refine tkf (i := 18) (oi := ⟨some 9, _, _, _, _, _⟩) (v := ?_) rfl (by kernel_rfl) (fun _ _ _ h => h) (by assumption) ?_ ?_
 rotate_left
 ·(intro w hSw; (try dsimp only at hSw); go_simp; (try (with_reducible rfl)))
 try simp only [Act.put, List.setIfInBounds_toArray, List.set_cons_zero, List.set_cons_succ]
 refine wpAnyH_done (by kernel_rfl) ?_ _
 rw [HW2.out, HY.out]
 go_wp2_with fail
 refine KD.out.mono ?_
 rintro e w3 (⟨x', c', a', α', hl, hbb, hα, rfl, S3, o3, f3⟩ | ⟨ha, b', β, d', rfl, D3, o3, hG⟩)
 ·have R3 := HR.out.only o3 (fun g hg hm => (List.mem_cons.1 hm).elim (HNY.out g hg) (HS.out.at_.not_doc HR.out g hg))
  have KN := down_any S3.at_.hd
  rw [show (c'.armed α').d.down = false from S3.g.up, hl] at KN
  have KN := Lib.hid KN
  obtain ⟨nv', ov', R3', fr'⟩ := S3.rt
  obtain ⟨A3, k3, q3, rfl⟩ : ∃ A k q, nv' = .slice A k q := by obtain ⟨A, q, e⟩ := R3'.hn.val; exact ⟨A, _, q, e⟩
  obtain ⟨A4, k4, q4, rfl⟩ : ∃ A k q, ov' = .slice A k q := by obtain ⟨A, q, e⟩ := R3'.ho.val; exact ⟨A, _, q, e⟩
  obtain ⟨z1, z2, z3, RC, oc⟩ := R3.copy R3' hne (S3.many.trans HM.out.symm)
  have RS := Lib.hid (show LS w0 (((w3.setCell ⟨rb, 1, none⟩ (.slice A3 k3 q3)).setCell ⟨rb, 2, none⟩ (.slice A4 k4 q4)).setCell ⟨rb, 3, none⟩ (.int .i64 a'.ep)) x' rb n c' a' α' (K + 1) tw from
   ⟨S3.at_.only oc (fun g hg hm => S3.at_.not_doc R3 rb (List.mem_cons_self ..) (by rw [← List.mem_singleton.1 hm]; exact hg)), ⟨_, _, RC, fun g hg => (List.mem_cons.1 hg).elim (fun e => by rw [e]; exact HFR.out rb (List.mem_cons_self ..)) (fun h => fr' g (List.mem_cons_of_mem _ h))⟩, S3.b0.trans (oc.below_of S3.b0.size (fun g hg => by rw [List.mem_singleton.1 hg]; exact HFR.out rb (List.mem_cons_self ..))), S3.fr, S3.g, S3.R, S3.T, S3.h0, S3.e, S3.al, S3.bc, S3.be⟩)
  have y1 := R3'.f1
  have y2 := R3'.f2
  have y3 := R3'.f3
  have g1 := R3.f1
  have g2 := R3.f2
  have g3 := R3.f3
  have hne' : rb ≠ yb := fun e => hne e.symm
  have HBB := Lib.hid (hbb h9)
  have HL := Lib.hid hl
  have HA := Lib.hid hα
  clear hl hbb hα S3 o3 R3 R3' RC oc fr' c0 c1 c2
  unfold dp at KN
  go_wp2_with fail
  refine KN.out.mono ?_
  rintro e w4 ⟨rfl, rfl⟩
  go_wp2_with fail
  go_ret
  exact .inl ⟨x', c', a', α', HL.out, HBB.out, HA.out, by first | rfl | simp, RS.out⟩
 ·have R3 := Lib.hid (HR.out.only o3 (fun g hg hm => (List.mem_cons.1 hm).elim (HNY.out g hg) (HS.out.at_.not_doc HR.out g hg)))
  have KN := down_any D3
  rw [hG.2.1] at KN
  have KN := Lib.hid KN
  have HD3 := Lib.hid D3
  have HGG := Lib.hid hG
  have O4 := Lib.hid (HO2.out _ o3)
  have O3 := Lib.hid (HS.out.b0.trans (o3.below_of HS.out.b0.size (fun g hg => (List.mem_cons.1 hg).elim (fun e => by rw [e, ← HY.out]; exact HSZ.out) (HS.out.fr g))))
  clear D3 hG o3 ha
  unfold dp at KN
  go_wp2_with fail
  refine KN.out.mono ?_
  rintro e w4 ⟨rfl, rfl⟩
  go_wp2_with fail
  go_ret
  exact .inr ⟨(.slice A1 k1 q1), (.slice A2 k2 q2), d', by first | rfl | simp, HD3.out, HGG.out, R3.out, HFR.out, O3.out, O4.out⟩
end Go.Proofs.YtbelcgjbhpjnpaaGreat.Sh
