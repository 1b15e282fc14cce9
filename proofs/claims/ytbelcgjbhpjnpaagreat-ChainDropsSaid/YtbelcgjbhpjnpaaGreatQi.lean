/- the document's pool by its contracts: Let, Set, Get, Put, Drop, Evict, Commit, Abort. -/
import Derived.Test.YtbelcgjbhpjnpaaGreatQg
set_option linter.all false
set_option linter.unusedVariables false
set_option linter.unusedSimpArgs false
namespace Go.Proofs.YtbelcgjbhpjnpaaGreat.Sh
open Go.RowKit Pk Dk Pg
attribute [local go_sem ↓] Go.wp_at_zero Go.wp_at_succ
set_option maxRecDepth 100000 in
set_option maxHeartbeats 4000000 in
theorem xlet {w : World} {pq rs n Kz : Nat} {q : QS} (h : RX w pq rs q) (H : Hq q n Kz) (hK : Kz ≤ 1000000000000) (p : Int) :
  Calls Tryz.prog 113 #[rp pq, .int .i64 p] w fun e w' => e = .returned (.int .i64 (q.letF p).2) ∧ RX w' pq rs (q.letF p).1 ∧ Only [pq, rs] w w' := by
 have KF := Lib.hid (xfind h p)
 have H0 := Lib.hid h
 rcases findF_le q.l p with e | ⟨k, f, e, hf, he1, he0⟩
 ·rw [e] at KF
  have hE : q.letF p = (q, 16) := by
   unfold QS.letF QS.heldF
   rw [e, if_pos (by omega)]
  rw [hE]
  clear h H hE e
  unfold rp at *
  go_enter Tryz.func113, Tryz.ntmps113
  go_wp2_with fail
  refine KF.out.mono ?_
  rintro e w5 ⟨rfl, rfl⟩
  go_wp2_with fail
  go_ret
  exact ⟨by first | rfl | simp, H0.out, Only.refl _ _⟩
 ·rw [e] at KF
  have hfb := H.f f (List.mem_of_getElem? hf)
  have hkl : k < q.l.length := (List.getElem?_eq_some_iff.1 hf).1
  have hl2 := H.l2
  have hkI : (k : Int) < (q.l.length : Int) := by omega
  have hk0 : ¬ (k : Int) < 0 := by omega
  have hE : q.letF p = if f.held = 0 then (q, 16) else ({ q with l := q.l.set k { f with held := f.held - 1 } }, 0) := by
   unfold QS.letF QS.heldF
   rw [e, if_neg (by omega), show ((k : Nat) : Int).toNat = k by omega, hf]
   dsimp only
   by_cases h0 : f.held = 0
   ·rw [if_pos h0, if_pos h0]
   ·rw [if_neg h0, if_neg h0]
  rw [hE]
  have eh : IntKind.i64.wrap (f.held - 1) = f.held - 1 := IntWalk.i64_in _ (by omega)
  by_cases h0 : f.held = 0
  ·rw [if_pos h0]
   obtain ⟨g, cp, p1, _, FR⟩ := h.fr
   obtain ⟨c0, c1, c2, c3, c4⟩ := FR k f hf
   clear h H hE hf hfb hkl he1 he0 c0 c1 c3 c4
   unfold rp at *
   go_enter Tryz.func113, Tryz.ntmps113
   go_wp2_with fail
   refine KF.out.mono ?_
   rintro e w5 ⟨rfl, rfl⟩
   go_wp2_with fail
   go_ret
   exact ⟨by first | rfl | simp, H0.out, Only.refl _ _⟩
  ·rw [if_neg h0]
   have hq : (f.held == 0) = false := by rw [beq_eq_false_iff_ne]; exact h0
   have hq0 : decide ((k : Int) < 0) = false := by rw [decide_eq_false_iff_not]; exact hk0
   obtain ⟨g, cp, p1, _, FR⟩ := h.fr
   obtain ⟨c0, c1, c2, c3, c4⟩ := FR k f hf
   have BL := Lib.hid (Blk.new w 88 #[.int .i64 f.page, .string f.pay, .int .i64 (f.held - 1), .bool f.dirty, .bool f.used])
   have OL := Lib.hid (belowAlloc (Below.refl w.heap.size w) (.cells #[.int .i64 f.page, .string f.pay, .int .i64 (f.held - 1), .bool f.dirty, .bool f.used] 88))
   have hlt := h.lt2
   have KS := Lib.hid (xset (h.below OL.out) k hkl { f with held := f.held - 1 })
   unfold Fr.agg at KS
   dsimp only at KS
   have NB := Lib.hid (show w.heap.size ∉ [pq, rs] from by simp; omega)
   clear h H hE hf hfb hkl he1 he0
   unfold rp at *
   go_enter Tryz.func113, Tryz.ntmps113
   go_wp2_with fail
   refine KF.out.mono ?_
   rintro e w5 ⟨rfl, rfl⟩
   go_wp2_with fail
   refine KS.out.mono ?_
   rintro e w4 ⟨rfl, x4, o4⟩
   have X4 := Lib.hid x4
   have O4 := Lib.hid ((Only.of_below (S := [pq, rs]) OL.out).trans o4)
   clear x4 o4
   go_wp2_with fail
   go_ret
   exact ⟨by first | rfl | simp, X4.out, O4.out⟩
set_option maxRecDepth 100000 in
set_option maxHeartbeats 4000000 in
theorem xsetF {w : World} {pq rs n Kz : Nat} {q : QS} (h : RX w pq rs q) (H : Hq q n Kz) (p : Int) (b : ByteArray) :
  Calls Tryz.prog 114 #[rp pq, .int .i64 p, .string b] w fun e w' => e = .returned (.int .i64 (q.setF p b).2) ∧ RX w' pq rs (q.setF p b).1 ∧ Only [pq, rs] w w' := by
 have KF := Lib.hid (xfind h p)
 have H0 := Lib.hid h
 by_cases hb : 232 < b.size
 ·have hE : q.setF p b = (q, 4) := by unfold QS.setF; rw [if_pos hb]
  rw [hE]
  have hbI : (232 : Int) < (b.size : Int) := by omega
  clear h H hE hb
  unfold rp at *
  go_enter Tryz.func114, Tryz.ntmps114
  go_wp2_with fail
  go_ret
  exact ⟨by first | rfl | simp, H0.out, Only.refl _ _⟩
 have hbI : ¬ (232 : Int) < (b.size : Int) := by omega
 rcases findF_le q.l p with e | ⟨k, f, e, hf, he1, he0⟩
 ·rw [e] at KF
  have hE : q.setF p b = (q, 16) := by
   unfold QS.setF QS.heldF
   rw [if_neg hb, e, if_pos (by omega)]
  rw [hE]
  clear h H hE e hb
  unfold rp at *
  go_enter Tryz.func114, Tryz.ntmps114
  go_wp2_with fail
  refine KF.out.mono ?_
  rintro e w5 ⟨rfl, rfl⟩
  go_wp2_with fail
  go_ret
  exact ⟨by first | rfl | simp, H0.out, Only.refl _ _⟩
 ·rw [e] at KF
  have hkl : k < q.l.length := (List.getElem?_eq_some_iff.1 hf).1
  have hl2 := H.l2
  have hkI : (k : Int) < (q.l.length : Int) := by omega
  have hk0 : ¬ (k : Int) < 0 := by omega
  have hE : q.setF p b = if f.held = 0 then (q, 16) else ({ q with l := q.l.set k { f with pay := fullB b, dirty := true, used := true } }, 0) := by
   unfold QS.setF QS.heldF
   rw [if_neg hb, e, if_neg (by omega), show ((k : Nat) : Int).toNat = k by omega, hf]
   dsimp only
   by_cases h0 : f.held = 0
   ·rw [if_pos h0, if_pos h0]
   ·rw [if_neg h0, if_neg h0]
  rw [hE]
  by_cases h0 : f.held = 0
  ·rw [if_pos h0]
   obtain ⟨g, cp, p1, _, FR⟩ := h.fr
   obtain ⟨c0, c1, c2, c3, c4⟩ := FR k f hf
   clear h H hE hf hkl he1 he0 c0 c1 c3 c4 hb
   unfold rp at *
   go_enter Tryz.func114, Tryz.ntmps114
   go_wp2_with fail
   refine KF.out.mono ?_
   rintro e w5 ⟨rfl, rfl⟩
   go_wp2_with fail
   go_ret
   exact ⟨by first | rfl | simp, H0.out, Only.refl _ _⟩
  ·rw [if_neg h0]
   have hq : (f.held == 0) = false := by rw [beq_eq_false_iff_ne]; exact h0
   have hq0 : decide ((k : Int) < 0) = false := by rw [decide_eq_false_iff_not]; exact hk0
   obtain ⟨g, cp, p1, _, FR⟩ := h.fr
   obtain ⟨c0, c1, c2, c3, c4⟩ := FR k f hf
   have hlt := h.lt2
   have KU := Lib.hid (fun W => rfull_any b (by omega) W)
   rw [show (⟨(padL b.data.toList 232).toArray⟩ : ByteArray) = fullB b from rfl] at KU
   generalize fullB b = FB at *
   have BF := Lib.hid (Blk.new w 88 #[.int .i64 f.page, .string f.pay, .int .i64 f.held, .bool f.dirty, .bool f.used])
   have OF := Lib.hid (belowAlloc (Below.refl w.heap.size w) (.cells #[.int .i64 f.page, .string f.pay, .int .i64 f.held, .bool f.dirty, .bool f.used] 88))
   have KS := Lib.hid (fun (W : World) (hW : Below w.heap.size w W) => xset (h.below hW) k hkl { f with pay := FB, dirty := true, used := true })
   unfold Fr.agg at KS
   dsimp only at KS
   have NB := Lib.hid (show w.heap.size ∉ [pq, rs] from by simp; omega)
   have HSZ := Lib.hid (Nat.le_refl w.heap.size)
   clear h H hE hf hkl he1 he0 hb
   unfold rp at *
   go_enter Tryz.func114, Tryz.ntmps114
   go_wp2_with fail
   refine KF.out.mono ?_
   rintro e w5 ⟨rfl, rfl⟩
   go_wp2_with fail
   refine (KU.out _).mono ?_
   rintro e w6 ⟨rfl, hb6⟩
   have B6 := Lib.hid (BF.out.below hb6 BF.out.lt)
   have O6 := Lib.hid (bstep OF.out hb6)
   clear hb6
   have z1 := B6.out.frozen 1 (by simp)
   have a1 := B6.out.cell_some (i := 1) rfl
   have B7 := B6.out.set_ 1 (.string FB)
   have O7 := Below.setCell O6.out (p := ⟨w.heap.size, 1, none⟩) (Nat.le_refl _) (.string FB)
   have z3 := B7.frozen 3 (by simp)
   have a3 := B7.cell_some (i := 3) rfl
   have B8 := B7.set_ 3 (.bool true)
   have O8 := Below.setCell O7 (p := ⟨w.heap.size, 3, none⟩) (Nat.le_refl _) (.bool true)
   have z4 := B8.frozen 4 (by simp)
   have a4 := B8.cell_some (i := 4) rfl
   have B9 := B8.set_ 4 (.bool true)
   have O9 := Below.setCell O8 (p := ⟨w.heap.size, 4, none⟩) (Nat.le_refl _) (.bool true)
   have d0 := B9.cell_some (i := 0) rfl
   have d1 := B9.cell_some (i := 1) rfl
   have d2 := B9.cell_some (i := 2) rfl
   have d3 := B9.cell_some (i := 3) rfl
   have d4 := B9.cell_some (i := 4) rfl
   have KS9 := Lib.hid (KS.out _ O9)
   have OL := Lib.hid O9
   clear B7 B8 B9 O7 O8 O9
   go_wp2_with fail
   refine KS9.out.mono ?_
   rintro e w4 ⟨rfl, x4, o4⟩
   have X4 := Lib.hid x4
   have O4 := Lib.hid ((Only.of_below (S := [pq, rs]) OL.out).trans o4)
   clear x4 o4
   go_wp2_with fail
   go_ret
   exact ⟨by first | rfl | simp, X4.out, O4.out⟩
end Go.Proofs.YtbelcgjbhpjnpaaGreat.Sh
