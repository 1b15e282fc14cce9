/- a pool by its contracts: Evict, Abort, Commit, Drop, New, Store. -/
import Derived.Test.YtbelcgjbhpjnpaaGreatZf
set_option linter.all false
set_option linter.unusedVariables false
set_option linter.unusedSimpArgs false
namespace Go.Proofs.YtbelcgjbhpjnpaaGreat.Sh
open Go.RowKit Pk Dk Pg
attribute [local go_sem ↓] Go.wp_at_zero Go.wp_at_succ
/-- a call of a pool whose store may lie elsewhere since -/
def ZTo (w w' : World) (y : Y) (n : Nat) (q : QS) (K : Nat) : Prop := ∃ y', y'.pb = y.pb ∧ y'.x.b = y.x.b ∧ y'.x.L = y.x.L ∧ ZP w' y' n q K ∧ Only y.fp w w' ∧ ∀ g ∈ y'.fp, g ∈ y.fp ∨ w.heap.size ≤ g
theorem ZTo.self {w w' : World} {y : Y} {n : Nat} {q : QS} {K : Nat} (h : ZP w' y n q K) (o : Only y.fp w w') : ZTo w w' y n q K := ⟨y, rfl, rfl, rfl, h, o, fun _ hg => .inl hg⟩
theorem ZTo.more {w w' : World} {y : Y} {n : Nat} {q : QS} {K K' : Nat} (h : ZTo w w' y n q K) (hk : K ≤ K') : ZTo w w' y n q K' := by
 obtain ⟨y', e1, e2, e3, h, o, f⟩ := h
 exact ⟨y', e1, e2, e3, h.more hk, o, f⟩
theorem ZP.setNil {w : World} {y : Y} {n K : Nat} {q : QS} {c : C} (A : AtP w y n (q.ps c)) (k : Nat) (hk : k < q.l.length) :
  w.frozen? ⟨y.fg, k * 5, none⟩ = false ∧ w.frozen? ⟨y.fg, k * 5 + 1, none⟩ = false ∧ w.frozen? ⟨y.fg, k * 5 + 2, none⟩ = false ∧ w.frozen? ⟨y.fg, k * 5 + 3, none⟩ = false ∧ w.frozen? ⟨y.fg, k * 5 + 4, none⟩ = false ∧
  AtP (((((w.setCell ⟨y.fg, k * 5, none⟩ (.int .i64 (-1))).setCell ⟨y.fg, k * 5 + 1, none⟩ (.string ⟨#[]⟩)).setCell ⟨y.fg, k * 5 + 2, none⟩ (.int .i64 0)).setCell ⟨y.fg, k * 5 + 3, none⟩ (.bool false)).setCell ⟨y.fg, k * 5 + 4, none⟩ (.bool false)) y n (({ q with l := q.l.set k Fr.nil } : QS).ps c) ∧
  Only y.fp w (((((w.setCell ⟨y.fg, k * 5, none⟩ (.int .i64 (-1))).setCell ⟨y.fg, k * 5 + 1, none⟩ (.string ⟨#[]⟩)).setCell ⟨y.fg, k * 5 + 2, none⟩ (.int .i64 0)).setCell ⟨y.fg, k * 5 + 3, none⟩ (.bool false)).setCell ⟨y.fg, k * 5 + 4, none⟩ (.bool false)) :=
 A.setNil k (List.getElem?_eq_getElem hk)
set_option maxRecDepth 100000 in
set_option maxHeartbeats 4000000 in
theorem zevict_in {w : World} {y : Y} {n K : Nat} {q : QS} (h : ZP w y n q K) (hb : Fb q.l K) (hK : K ≤ 999999999999) (k : Nat) (hk : k < q.l.length) :
  Calls Tryz.prog 59 #[pp y.pb, .int .i64 (k : Nat)] w fun e w' => e = .returned (.int .i64 (q.evictF (k : Nat)).2) ∧ ZP w' y n (q.evictF (k : Nat)).1 (K + 1) ∧ Only y.fp w w' := by
 have KB := Lib.hid (fun (W : World) (hW : Below w.heap.size w W) => back_any (h.below hW) (by omega) k hk (fun f hf => (hb f hf).2.2))
 have hbl := (back_l hb hk).2
 obtain ⟨c, A, z⟩ := h
 have p1 : w.cell? ⟨y.pb, 1, none⟩ = some (.slice (some ⟨y.fg, 0, none⟩) q.l.length y.cp) := A.p1
 have l2 : q.l.length ≤ 32 := A.l2
 obtain ⟨f, hf⟩ : ∃ f, frD q.l k = f := ⟨_, rfl⟩
 have hfr := frD_get hk
 rw [hf] at hfr
 obtain ⟨c0, c1, c2, c3, c4⟩ := A.frs k f hfr
 have hkI : (k : Int) < (q.l.length : Int) := by omega
 have hk0 : ¬ (k : Int) < 0 := by omega
 have KE := Lib.hid empty_any
 unfold Fr.nil Fr.agg at KE
 have HS := Lib.hid (show ZP w y n q (K + 1) from ⟨c, A, z.more (by omega)⟩)
 have hE : q.evictF (k : Nat) = if f.page < 0 then (q, 0) else if 0 < f.held then (q, 16) else if (q.backF k).2 ≠ 0 then q.backF k else ({ (q.backF k).1 with l := (q.backF k).1.l.set k Fr.nil }, 0) := by
  unfold QS.evictF
  rw [show ((k : Nat) : Int).toNat = k by omega, hf, if_neg (by omega)]
 rw [hE]
 generalize q.backF k = BB at *
 obtain ⟨B, be⟩ := BB
 dsimp only at KB hbl ⊢
 have OB := Lib.hid (Below.refl w.heap.size w)
 clear hE A z hf hfr hb
 by_cases h1 : f.page < 0
 ·rw [if_pos h1]
  clear hbl
  unfold pp at *
  go_enter Tryz.func59, Tryz.ntmps59
  go_wp2_with fail
  go_ret
  exact ⟨by first | rfl | simp, HS.out, Only.of_below OB.out⟩
 rw [if_neg h1]
 by_cases h2 : 0 < f.held
 ·rw [if_pos h2]
  clear hbl
  unfold pp at *
  go_enter Tryz.func59, Tryz.ntmps59
  go_wp2_with fail
  go_ret
  exact ⟨by first | rfl | simp, HS.out, Only.of_below OB.out⟩
 rw [if_neg h2]
 by_cases h3 : be = 0
 ·subst h3
  rw [if_neg (by simp)]
  have HBL := Lib.hid hbl
  clear hbl
  unfold pp at *
  go_enter Tryz.func59, Tryz.ntmps59
  go_wp2_with fail
  refine (KB.out _ OB.out).mono ?_
  rintro e w5 ⟨rfl, ⟨c5, A5, Z5⟩, o5⟩
  obtain ⟨N, hN⟩ : ∃ N, B.l.length = N := ⟨_, rfl⟩
  have HLN := Lib.hid hN
  have hkN : k < N := by rw [← hN, HBL.out]; exact hk
  have hNI : (k : Int) < (N : Int) := by omega
  have l3 : N ≤ 32 := by rw [← hN]; exact A5.l2
  obtain ⟨g, HG⟩ : ∃ g, Hid (B.l[k]? = some g) := ⟨_, Lib.hid (List.getElem?_eq_getElem (by omega))⟩
  have AD := Lib.hid A5.drew
  have OD := Lib.hid o5.drew
  have Z5 := Lib.hid Z5
  have P1D := Lib.hid (show w5.drew.cell? ⟨y.pb, 1, none⟩ = some (.slice (some ⟨y.fg, 0, none⟩) N y.cp) from by rw [← hN]; exact AD.out.p1)
  clear A5 o5 hN
  go_wp2_with fail
  refine wp_region_held_drew (S := fun W' => W'.cell? ⟨y.pb, 1, none⟩ = some (.slice (some ⟨y.fg, 0, none⟩) N y.cp)) (by kernel_rfl) (P1D.out) (fun hHeld => ?_)
  refine zpl [(0,47),(1,48),(2,49),(3,50),(4,51)] ?_
  iterate 5 (refine ztp (v := ?_) rfl (by kernel_rfl) (fun _ _ _ h => h) (by assumption) ?_ ?_; rotate_left; (·intro w hS; (try dsimp only at hS); go_simp; try with_reducible rfl); try simp only [Act.put, pa, pb, pc])
  refine zpe ?_
  refine wpAnyH_ready (rs := [5]) (by kernel_rfl) (by simp) ?_
  refine AllReadyH.cons (o := ⟨some 52, _, _, _, _, _⟩) rfl (fun K hK => ?_) AllReadyH.nil
  go_simp
  go_at_call 126
  refine (KE.out _).mono ?_
  rintro e w6 ⟨rfl, hb6⟩
  have A6 := Lib.hid (AD.out.below hb6)
  have O6 := Lib.hid (OD.out.trans (Only.of_below (S := y.fp) hb6))
  have p1y : w6.cell? ⟨y.pb, 1, none⟩ = some (.slice (some ⟨y.fg, 0, none⟩) N y.cp) := by rw [← HLN.out]; exact A6.out.p1
  clear hb6
  go_simp
  refine hK.out _ _ (p1y) (fun hHeld => ?_)
  try simp only [Act.put, pa, pb, pc]
  refine zpl [(6,53)] ?_
  iterate 1 (refine ztp (v := ?_) rfl (by kernel_rfl) (fun _ _ _ h => h) (by assumption) ?_ ?_; rotate_left; (·intro w hS; (try dsimp only at hS); go_simp; try with_reducible rfl); try simp only [Act.put, pa, pb, pc])
  refine zpe ?_
  refine wpAnyH_ready (rs := [7]) (by kernel_rfl) (by simp) ?_
  refine AllReadyH.cons (o := ⟨none, _, _, _, _, _⟩) rfl (fun K hK => ?_) AllReadyH.nil
  go_simp
  have p1x : w6.cell? ⟨y.pb, 1, none⟩ = some (.slice (some ⟨y.fg, 0, none⟩) N y.cp) := by rw [← HLN.out]; exact A6.out.p1
  obtain ⟨c0, c1, c2, c3, c4⟩ := A6.out.frs k g HG.out
  obtain ⟨z0, z1, z2, z3, z4, B4, q4⟩ := A6.out.setNil k HG.out
  have AZ := Lib.hid B4
  have OZ := Lib.hid (O6.out.trans q4)
  clear B4 q4
  go_simp
  refine hK.out _ _ (by have h := AZ.out.p1; rw [← HLN.out]; simpa [QS.ps] using h) (fun hHeld => ?_)
  try simp only [Act.put, pa, pb, pc]
  refine wpAnyH_done (by kernel_rfl) ?_ _
  go_wp2_with fail
  go_ret
  exact ⟨by first | rfl | simp, ⟨c5, AZ.out, Z5.out⟩, OZ.out⟩
 ·rw [if_pos h3]
  have hq : (be == 0) = false := by rw [beq_eq_false_iff_ne]; exact h3
  have hq2 : (be != 0) = true := by rw [bne_iff_ne]; exact h3
  clear hbl
  unfold pp at *
  go_enter Tryz.func59, Tryz.ntmps59
  go_wp2_with fail
  refine (KB.out _ OB.out).mono ?_
  rintro e w5 ⟨rfl, z5, o5⟩
  have Z5 := Lib.hid z5
  have O5 := Lib.hid o5
  clear z5 o5
  go_wp2_with fail
  go_ret
  exact ⟨by first | rfl | simp, Z5.out, O5.out⟩
set_option maxRecDepth 100000 in
set_option maxHeartbeats 4000000 in
theorem zevict_out {w : World} {y : Y} {n K : Nat} {q : QS} (h : ZP w y n q K) (i : Int) (hi : i < 0 ∨ (q.l.length : Int) ≤ i) :
  Calls Tryz.prog 59 #[pp y.pb, .int .i64 i] w fun e w' => e = .returned (.int .i64 3) ∧ Below w.heap.size w w' := by
 obtain ⟨c, A, z⟩ := h
 have p1 : w.cell? ⟨y.pb, 1, none⟩ = some (.slice (some ⟨y.fg, 0, none⟩) q.l.length y.cp) := A.p1
 have OB := Lib.hid (Below.refl w.heap.size w)
 clear A z
 by_cases h0 : i < 0
 ·clear hi
  unfold pp at *
  go_enter Tryz.func59, Tryz.ntmps59
  go_wp2_with fail
  go_ret
  exact ⟨by first | rfl | simp, OB.out⟩
 ·have h1 : (q.l.length : Int) ≤ i := by omega
  clear hi
  unfold pp at *
  go_enter Tryz.func59, Tryz.ntmps59
  go_wp2_with fail
  go_ret
  exact ⟨by first | rfl | simp, OB.out⟩
theorem zevict_any {w : World} {y : Y} {n K : Nat} {q : QS} (h : ZP w y n q K) (hb : Fb q.l K) (hK : K ≤ 999999999999) (i : Int) :
  Calls Tryz.prog 59 #[pp y.pb, .int .i64 i] w fun e w' => e = .returned (.int .i64 (q.evictF i).2) ∧ ZP w' y n (q.evictF i).1 (K + 1) ∧ Only y.fp w w' := by
 by_cases hi : i < 0 ∨ (q.l.length : Int) ≤ i
 ·unfold QS.evictF
  rw [if_pos hi]
  exact (zevict_out h i hi).mono fun e w' ⟨r, b⟩ => ⟨r, (h.below b).more (by omega), .of_below b⟩
 ·obtain ⟨k, rfl⟩ := Int.eq_ofNat_of_zero_le (show 0 ≤ i by omega)
  exact zevict_in h hb hK k (by omega)
def nilTo (l : List Fr) (i : Nat) : List Fr := List.replicate i Fr.nil ++ l.drop i
theorem nilTo_len (l : List Fr) {i : Nat} (h : i ≤ l.length) : (nilTo l i).length = l.length := by unfold nilTo; simp; omega
theorem nilTo_set (l : List Fr) {i : Nat} (h : i < l.length) : (nilTo l i).set i Fr.nil = nilTo l (i + 1) := by
 unfold nilTo
 rw [List.set_append_right _ _ (by simp), List.length_replicate, Nat.sub_self, List.drop_eq_getElem_cons h, List.set_cons_zero, List.replicate_succ', List.append_assoc]
 rfl
set_option maxRecDepth 100000 in
set_option maxHeartbeats 4000000 in
theorem zpabort_any {w : World} {y : Y} {n K : Nat} {q : QS} (h : ZP w y n q K) :
  Calls Tryz.prog 50 #[pp y.pb] w fun e w' => e = .returned (.bool true) ∧ ZTo w w' y n q.abortF K := by
 obtain ⟨c, A, z⟩ := h
 have p1 : w.cell? ⟨y.pb, 1, none⟩ = some (.slice (some ⟨y.fg, 0, none⟩) q.l.length y.cp) := A.p1
 have l2 : q.l.length ≤ 32 := A.l2
 obtain ⟨N, hN⟩ : ∃ N, q.l.length = N := ⟨_, rfl⟩
 have HN := Lib.hid hN
 rw [hN] at p1 l2
 have KE := Lib.hid empty_any
 unfold Fr.nil Fr.agg at KE
 have HST := Lib.hid (show ∀ i, i < N → (nilTo q.l i).set i Fr.nil = nilTo q.l (i + 1) from fun i hi => nilTo_set q.l (by omega))
 have HLE := Lib.hid (show ∀ i, i ≤ N → (nilTo q.l i).length = N from fun i hi => by rw [nilTo_len q.l (by omega)]; exact hN)
 have HEND := Lib.hid (show nilTo q.l N = List.replicate q.l.length Fr.nil from by unfold nilTo; rw [hN, List.drop_of_length_le (by omega), List.append_nil])
 have H0 := Lib.hid (show AtP w y n (({ q with l := nilTo q.l 0 } : QS).ps c) from A)
 have KA := Lib.hid (fun (W : World) (B : AtP W y n (({ q with l := nilTo q.l N } : QS).ps c)) => zabort_any B.hs z)
 have HZ := Lib.hid (show ∀ (w1 w2 : World) (c' : C) (B : AtP w1 y n (({ q with l := nilTo q.l N } : QS).ps c)) (o : Only y.fp w w1) (p : Post w1 w2 y.x n c') (z' : Zc c' n { q.a with now := oldS q.a.old } K), ZTo w w2 y n q.abortF K from fun w1 w2 c' B o p z' => by
  obtain ⟨y', e1, _, _, e2, e3, B', o', f'⟩ := B.store p
  refine ⟨y', e1, e2, e3, ⟨c', ?_, z'⟩, o.trans o', fun g hg => (f' g hg).imp id (fun h => Nat.le_trans o.size h)⟩
  have hE : (q.abortF).ps c' = { (({ q with l := nilTo q.l N } : QS).ps c) with c := c' } := by
   unfold QS.abortF QS.ps
   dsimp only
   rw [HEND.out]
  rw [hE]
  exact B')
 clear A z hN
 unfold pp sp at *
 go_enter Tryz.func50, Tryz.ntmps50
 go_wp2_with fail
 go_loopw [3, 11] (fun _ iv wr => ∃ i : Nat, i ≤ N ∧ iv = .int .i64 i ∧ Hid (AtP wr y n (({ q with l := nilTo q.l i } : QS).ps c)) ∧ Hid (Only y.fp w wr)) (fun _ iv _ => N - (intOf iv).toNat)
 case atStart => exact ⟨0, Nat.zero_le _, rfl, H0, Lib.hid (Only.refl _ _)⟩
 case round =>
  obtain ⟨i, hi, rfl, AI, OI⟩ := hrel
  by_cases h' : i < N
  ·have hI : (i : Int) < (N : Int) := by omega
   have HLN := Lib.hid (HLE.out i hi)
   obtain ⟨g, HG⟩ : ∃ g, Hid ((nilTo q.l i)[i]? = some g) := ⟨_, Lib.hid (List.getElem?_eq_getElem (by rw [HLN.out]; exact h'))⟩
   have AD := Lib.hid AI.out.drew
   have OD := Lib.hid OI.out.drew
   have P1D := Lib.hid (show wr.drew.cell? ⟨y.pb, 1, none⟩ = some (.slice (some ⟨y.fg, 0, none⟩) N y.cp) from by rw [← HLN.out]; exact AD.out.p1)
   have HS1 := Lib.hid (HST.out i h')
   go_wp2_with fail
   refine wp_region_held_drew (S := fun W' => W'.cell? ⟨y.pb, 1, none⟩ = some (.slice (some ⟨y.fg, 0, none⟩) N y.cp)) (by kernel_rfl) (P1D.out) (fun hHeld => ?_)
   refine zpl [(0,14),(1,15),(2,16),(3,17),(4,18)] ?_
   iterate 5 (refine ztp (v := ?_) rfl (by kernel_rfl) (fun _ _ _ h => h) (by assumption) ?_ ?_; rotate_left; (·intro w hS; (try dsimp only at hS); go_simp; try with_reducible rfl); try simp only [Act.put, pa, pb, pc])
   refine zpe ?_
   refine wpAnyH_ready (rs := [5]) (by kernel_rfl) (by simp) ?_
   refine AllReadyH.cons (o := ⟨some 19, _, _, _, _, _⟩) rfl (fun K hK => ?_) AllReadyH.nil
   go_simp
   go_at_call 126
   refine (KE.out _).mono ?_
   rintro e w6 ⟨rfl, hb6⟩
   have A6 := Lib.hid (AD.out.below hb6)
   have O6 := Lib.hid (OD.out.trans (Only.of_below (S := y.fp) hb6))
   have p1y : w6.cell? ⟨y.pb, 1, none⟩ = some (.slice (some ⟨y.fg, 0, none⟩) N y.cp) := by rw [← HLN.out]; exact A6.out.p1
   clear hb6
   go_simp
   refine hK.out _ _ (p1y) (fun hHeld => ?_)
   try simp only [Act.put, pa, pb, pc]
   refine zpl [(6,20)] ?_
   iterate 1 (refine ztp (v := ?_) rfl (by kernel_rfl) (fun _ _ _ h => h) (by assumption) ?_ ?_; rotate_left; (·intro w hS; (try dsimp only at hS); go_simp; try with_reducible rfl); try simp only [Act.put, pa, pb, pc])
   refine zpe ?_
   refine wpAnyH_ready (rs := [7]) (by kernel_rfl) (by simp) ?_
   refine AllReadyH.cons (o := ⟨none, _, _, _, _, _⟩) rfl (fun K hK => ?_) AllReadyH.nil
   go_simp
   have p1x : w6.cell? ⟨y.pb, 1, none⟩ = some (.slice (some ⟨y.fg, 0, none⟩) N y.cp) := by rw [← HLN.out]; exact A6.out.p1
   obtain ⟨c0, c1, c2, c3, c4⟩ := A6.out.frs i g HG.out
   obtain ⟨z0, z1, z2, z3, z4, B4, q4⟩ := A6.out.setNil i HG.out
   have AZ := Lib.hid B4
   have OZ := Lib.hid (O6.out.trans q4)
   clear B4 q4
   go_simp
   refine hK.out _ _ (by have h := AZ.out.p1; rw [← HLN.out]; simpa [QS.ps, HLN.out] using h) (fun hHeld => ?_)
   try simp only [Act.put, pa, pb, pc]
   refine wpAnyH_done (by kernel_rfl) ?_ _
   have A9 := Lib.hid (show AtP _ y n (({ q with l := nilTo q.l (i + 1) } : QS).ps c) from by rw [← HS1.out]; exact AZ.out)
   go_wp2_with fail
   go_roundw
   case rel => exact ⟨i + 1, by omega, by go_num, A9, OZ⟩
   case measure => simp [intOf]; omega
  ·obtain rfl : N = i := by omega
   have q0 := AI.out.p0
   go_wp2_with fail
   refine (KA.out _ AI.out).mono ?_
   rintro e w5 ⟨rfl, c5, p5, z5⟩
   have HF := Lib.hid (HZ.out _ _ _ AI.out OI.out p5 z5)
   clear p5 z5
   go_wp2_with fail
   go_ret
   exact ⟨by first | rfl | simp, HF.out⟩
theorem backs_l {q : QS} {K : Nat} (h : Fb q.l K) : ∀ i, i ≤ q.l.length → Fb (q.backsF i).1.l K ∧ (q.backsF i).1.l.length = q.l.length
 | 0, _ => ⟨h, rfl⟩
 | i + 1, hi => by
  obtain ⟨h1, h2⟩ := backs_l h i (by omega)
  unfold QS.backsF
  split
  ·exact ⟨h1, h2⟩
  ·obtain ⟨h3, h4⟩ := back_l (k := i) h1 (by omega)
   exact ⟨h3, by rw [h4, h2]⟩
theorem backs_succ (q : QS) (i : Nat) : q.backsF (i + 1) = if (q.backsF i).2 ≠ 0 then q.backsF i else (q.backsF i).1.backF i := rfl
theorem backs_stop (q : QS) {i : Nat} (h : (q.backsF i).2 ≠ 0) : ∀ k, q.backsF (i + k) = q.backsF i
 | 0 => rfl
 | k + 1 => by
  show q.backsF ((i + k) + 1) = _
  rw [backs_succ, backs_stop q h k, if_pos h]
set_option maxRecDepth 100000 in
set_option maxHeartbeats 4000000 in
theorem zpcommit_any {w : World} {y : Y} {n K : Nat} {q : QS} (h : ZP w y n q K) (hb : Fb q.l K) (hK : K ≤ 999999999000) :
  Calls Tryz.prog 48 #[pp y.pb] w fun e w' => e = .returned (.int .i64 q.commitF.2) ∧ ZTo w w' y n q.commitF.1 (K + 40) := by
 obtain ⟨c, A, z⟩ := h
 have l2 : q.l.length ≤ 32 := A.l2
 have KC := Lib.hid (pcount_any A)
 rw [show (q.ps c).l = q.l from rfl] at KC
 obtain ⟨N, hN⟩ : ∃ N, q.l.length = N := ⟨_, rfl⟩
 have HN := Lib.hid hN
 have HP1 := Lib.hid (show ∀ W, Below w.heap.size w W → W.cell? ⟨y.pb, 1, none⟩ = some (.slice (some ⟨y.fg, 0, none⟩) N y.cp) from fun W hW => by rw [← hN]; exact (A.below hW).p1)
 have H0 := Lib.hid (fun W (hW : Below w.heap.size w W) => (show ZP W y n (q.backsF 0).1 (K + 0) from ⟨c, A.below hW, z⟩))
 have KB := Lib.hid (fun (i : Nat) (hi : i < N) (W : World) (hW : ZP W y n (q.backsF i).1 (K + i)) => back_any hW (by omega) i (by rw [(backs_l hb i (by omega)).2]; omega) (fun f hf => ((backs_l hb i (by omega)).1 f hf).2.2))
 have HSU := Lib.hid (show ∀ i, (q.backsF i).2 = 0 → q.backsF (i + 1) = (q.backsF i).1.backF i from fun i h0 => by
  show (if (q.backsF i).2 ≠ 0 then q.backsF i else (q.backsF i).1.backF i) = _
  rw [if_neg (by simpa using h0)])
 have HBAD := Lib.hid (show ∀ i, i ≤ N → (q.backsF i).2 ≠ 0 → q.heldN = 0 → q.commitF = q.backsF i from fun i hi hne h0 => by
  have h1 := backs_stop q hne (N - i)
  rw [show i + (N - i) = N by omega] at h1
  unfold QS.commitF
  rw [h0, if_neg (by omega), hN, h1, if_pos hne])
 have HEND := Lib.hid (show (q.backsF N).2 = 0 → q.heldN = 0 → q.commitF = ({ (q.backsF N).1 with a := (q.backsF N).1.a.commitF.1 }, (q.backsF N).1.a.commitF.2) from fun h1 h0 => by
  unfold QS.commitF
  rw [h0, if_neg (by omega), hN, if_neg (by rw [h1]; simp)])
 have HHE := Lib.hid (show 0 < q.heldN → q.commitF = (q, 16) from fun h0 => by
  unfold QS.commitF
  rw [if_pos h0])
 have HZQ := Lib.hid (show ∀ W, Below w.heap.size w W → ZTo w W y n q (K + 40) from fun W hW => .self ((show ZP W y n q K from ⟨c, A.below hW, z⟩).more (by omega)) (.of_below hW))
 have KS := Lib.hid (fun (W : World) (c1 : C) (a : St) (K1 : Nat) (x : X) (B : At W x n c1) (z1 : Zc c1 n a K1) (hK1 : K1 ≤ 1000000000000) => zcommit_any B z1 hK1)
 rw [hN] at l2 KC
 have HCN : (q.l.countP fun f => decide (0 < f.held)) = q.heldN := rfl
 rw [HCN] at KC
 clear HCN A z hN
 unfold pp sp at *
 go_enter Tryz.func48, Tryz.ntmps48
 go_wp2_with fail
 refine KC.out.mono ?_
 rintro e w1 ⟨rfl, hb1⟩
 have O1 := Lib.hid hb1
 clear hb1
 obtain ⟨hn, hhn⟩ : ∃ hn, q.heldN = hn := ⟨_, rfl⟩
 have HHN := Lib.hid hhn
 rw [hhn]
 clear hhn
 by_cases h0 : 0 < hn
 ·have h0I : (0 : Int) < (hn : Int) := by omega
  have HR := Lib.hid (HHE.out (by rw [HHN.out]; exact h0))
  go_wp2_with fail
  go_ret
  exact ⟨by rw [HR.out]; rfl, by rw [HR.out]; exact HZQ.out _ O1.out⟩
 ·have h0I : ¬ (0 : Int) < (hn : Int) := by omega
  have HH0 := Lib.hid (show q.heldN = 0 by rw [HHN.out]; omega)
  have p1 := HP1.out _ O1.out
  go_wp2_with fail
  go_loopw [6, 7, 23] (fun _ _ iv wr => ∃ i : Nat, i ≤ N ∧ iv = .int .i64 i ∧ Hid (ZP wr y n (q.backsF i).1 (K + i)) ∧ Hid ((q.backsF i).2 = 0) ∧ Hid (Only y.fp w wr)) (fun _ _ iv _ => N - (intOf iv).toNat)
  case atStart => exact ⟨0, Nat.zero_le _, rfl, Lib.hid (H0.out _ O1.out), Lib.hid rfl, Lib.hid (Only.of_below O1.out)⟩
  case round =>
   obtain ⟨i, hi, rfl, ZI, E0, OI⟩ := hrel
   by_cases h' : i < N
   ·have hI : (i : Int) < (N : Int) := by omega
    have KB1 := Lib.hid (KB.out i h' wr ZI.out)
    have HS1 := Lib.hid (HSU.out i E0.out)
    have HB1 := Lib.hid (HBAD.out (i + 1) (by omega))
    rw [← HS1.out] at KB1
    obtain ⟨R, HR⟩ : ∃ R, Hid (q.backsF (i + 1) = R) := ⟨_, Lib.hid rfl⟩
    rw [HR.out] at KB1 HB1
    by_cases hr : R.2 = 0
    ·rw [hr] at KB1
     go_wp2_with fail
     refine KB1.out.mono ?_
     rintro e w5 ⟨rfl, z5, o5⟩
     have Z5 := Lib.hid (show ZP w5 y n (q.backsF (i + 1)).1 (K + (i + 1)) from by rw [HR.out]; exact z5)
     have E5 := Lib.hid (show (q.backsF (i + 1)).2 = 0 from by rw [HR.out]; exact hr)
     have O5 := Lib.hid (OI.out.trans o5)
     clear z5 o5
     go_wp2_with fail
     go_roundw
     case rel => exact ⟨i + 1, by omega, by go_num, Z5, E5, O5⟩
     case measure => simp [intOf]; omega
    ·have hq : (R.2 == 0) = false := by rw [beq_eq_false_iff_ne]; exact hr
     have hq2 : (R.2 != 0) = true := by rw [bne_iff_ne]; exact hr
     have HC := Lib.hid (HB1.out hr HH0.out)
     go_wp2_with fail
     refine KB1.out.mono ?_
     rintro e w5 ⟨rfl, z5, o5⟩
     have Z5 := Lib.hid z5
     have O5 := Lib.hid (OI.out.trans o5)
     clear z5 o5
     go_wp2_with fail
     go_ret
     exact ⟨by rw [HC.out]; rfl, by rw [HC.out]; exact .self (Z5.out.more (by omega)) O5.out⟩
   ·obtain rfl : N = i := by omega
    obtain ⟨c5, A5, Z5⟩ := ZI.out
    have q0 := A5.p0
    have KS5 := Lib.hid (KS.out _ _ _ _ _ A5.hs Z5 (by omega))
    have HE := Lib.hid (HEND.out E0.out HH0.out)
    have A5 := Lib.hid A5
    clear Z5
    unfold sp at *
    go_wp2_with fail
    refine KS5.out.mono ?_
    rintro e w6 ⟨rfl, c6, p6, z6⟩
    have HF := Lib.hid (show ZTo w w6 y n ({ (q.backsF N).1 with a := (q.backsF N).1.a.commitF.1 }) (K + 40) from by
     obtain ⟨y', e1, _, _, e2, e3, B', o', f'⟩ := A5.out.store p6
     exact ⟨y', e1, e2, e3, ⟨c6, B', z6.more (by omega)⟩, OI.out.trans o', fun g hg => (f' g hg).imp id (fun h => Nat.le_trans OI.out.size h)⟩)
    clear p6 z6
    go_wp2_with fail
    go_ret
    exact ⟨by rw [HE.out]; rfl, by rw [HE.out]; exact HF.out⟩
theorem zpnew_any {w : World} {y : Y} {n K : Nat} {q : QS} (h : ZP w y n q K) (hK : K ≤ 1000000000000) (v : ByteArray) (hs : v.size ≤ 9223372036854775807) :
  Calls Tryz.prog 53 #[pp y.pb, .string v] w fun e w' => e = .returned (.tuple #[.int .i64 (q.newF v.data.toList).2.1, .int .i64 (q.newF v.data.toList).2.2]) ∧ ZTo w w' y n (q.newF v.data.toList).1 (K + 1) := by
 obtain ⟨c, A, z⟩ := h
 have zn := z.new v.data.toList
 have hp := pmake_any A v hs (z.ep0 hK) (by have := (z.calls hK).1; show c.d.calls ≤ _; omega) (z.calls hK).2
 rw [show (q.ps c).c = c from rfl, zn.2] at hp
 refine hp.mono fun e w' ⟨r, y', e1, _, _, e2, e3, B', o', f'⟩ => ⟨r, y', e1, e2, e3, ⟨_, B', zn.1⟩, o', f'⟩
theorem zpdrop_any {w : World} {y : Y} {n K : Nat} {q : QS} (h : ZP w y n q K) (hb : Fb q.l K) (p : Int) :
  Calls Tryz.prog 58 #[pp y.pb, .int .i64 p] w fun e w' => e = .returned (.int .i64 (q.dropF p).2) ∧ ZP w' y n (q.dropF p).1 K ∧ Only y.fp w w' := by
 obtain ⟨c, A, z⟩ := h
 have zd := z.drop p
 unfold QS.dropF
 rcases findF_le q.l p with e | ⟨k, f, e, hf, _, _⟩
 ·rw [e, if_neg (by omega)]
  have hd := pdrop_out A p e
  rw [show (q.ps c).c = c from rfl, zd.2] at hd
  by_cases h0 : (q.a.dropF p).2 = 0
  ·rw [if_neg (by simpa using h0), if_neg (by omega)]
   refine hd.mono fun e w' ⟨r, A', o⟩ => ⟨by rw [r, h0], ⟨_, A', zd.1⟩, o⟩
  ·rw [if_pos h0]
   refine hd.mono fun e w' ⟨r, A', o⟩ => ⟨r, ⟨_, A', zd.1⟩, o⟩
 ·rw [e, show ((k : Nat) : Int).toNat = k by omega, frD_at hf]
  have hm := hb f (List.mem_of_getElem? hf)
  by_cases hh : 0 < f.held
  ·rw [if_pos ⟨by omega, hh⟩]
   exact (pdrop_held A p k e hf hh).mono fun e w' ⟨r, b⟩ => ⟨r, ⟨c, A.below b, z⟩, .of_below b⟩
  ·rw [if_neg (fun h => hh h.2)]
   have hd := pdrop_in A p k e hf (by omega)
   rw [show (q.ps c).c = c from rfl, zd.2] at hd
   by_cases h0 : (q.a.dropF p).2 = 0
   ·rw [if_neg (by simpa using h0), if_pos (by omega)]
    rw [if_pos h0] at hd
    refine hd.mono fun e w' ⟨r, A', o⟩ => ⟨by rw [r, h0], ⟨_, A', zd.1⟩, o⟩
   ·rw [if_pos h0]
    rw [if_neg h0] at hd
    refine hd.mono fun e w' ⟨r, A', o⟩ => ⟨r, ⟨_, A', zd.1⟩, o⟩
end Go.Proofs.YtbelcgjbhpjnpaaGreat.Sh
