/- a pool by its contracts: Pages, Count, Evict, Abort, Commit, Drop, New, Store. -/
import Derived.Test.YtbelcgjbhpjnpaaGreatZe
import Derived.Test.YtbelcgjbhpjnpaaGreatSo
set_option linter.all false
set_option linter.unusedVariables false
set_option linter.unusedSimpArgs false
namespace Go.Proofs.YtbelcgjbhpjnpaaGreat.Sh
open Go.RowKit Pk Dk Pg
attribute [local go_sem ↓] Go.wp_at_zero Go.wp_at_succ exec_app
def pgL (l : List Fr) : List Int := (l.map Fr.page).filter fun x => decide (0 ≤ x)
theorem pgL_succ (l : List Fr) (i : Nat) (f : Fr) (hf : l[i]? = some f) : pgL (l.take (i + 1)) = if 0 ≤ f.page then pgL (l.take i) ++ [f.page] else pgL (l.take i) := by
 obtain ⟨hi, rfl⟩ := List.getElem?_eq_some_iff.1 hf
 unfold pgL
 rw [List.take_succ_eq_append_getElem hi, List.map_append, List.filter_append]
 by_cases h : 0 ≤ l[i].page
 ·rw [if_pos h]; simp [h]
 ·rw [if_neg h]; simp [h]
theorem pgL_len (l : List Fr) : (pgL l).length ≤ l.length := by
 unfold pgL
 exact Nat.le_trans (List.length_filter_le _ _) (by simp)
set_option maxRecDepth 100000 in
set_option maxHeartbeats 4000000 in
theorem ppages_any {w : World} {y : Y} {n : Nat} {s : PS} (h : AtP w y n s) :
  Calls Tryz.prog 47 #[pp y.pb] w fun e w' => ∃ v, e = .returned v ∧ Slc w' 3 1 v (pgL s.l).length (nvs' (msort (pgL s.l))) ∧ Below w.heap.size w w' := by
 have H0 := Lib.hid h
 have p1 : w.cell? ⟨y.pb, 1, none⟩ = some (.slice (some ⟨y.fg, 0, none⟩) s.l.length y.cp) := h.p1
 have HL := Lib.hid (show ∀ i, (pgL (s.l.take i)).length ≤ 32 from fun i => by
  have := pgL_len (s.l.take i)
  have := h.l2
  rw [List.length_take] at *
  omega)
 obtain ⟨N, hN⟩ : ∃ N, s.l.length = N := ⟨_, rfl⟩
 have HN := Lib.hid hN
 have HT := Lib.hid (show pgL (s.l.take N) = pgL s.l from by rw [← hN, List.take_length])
 have hl2 : N ≤ 32 := by rw [← hN]; exact h.l2
 rw [hN] at p1
 have HF := Lib.hid h.frs
 clear h hN H0
 unfold pp
 go_enter Tryz.func47, Tryz.ntmps47
 go_wp2_with fail
 go_loopw [3, 5, 14] (fun pv _ iv wq => ∃ i : Nat, i ≤ N ∧ iv = .int .i64 i ∧ Slc wq 3 1 pv (pgL (s.l.take i)).length (nvs' (pgL (s.l.take i))) ∧ Hid (Below w.heap.size w wq) ∧ Hid (∀ g ∈ ownB pv, w.heap.size ≤ g)) (fun _ _ iv _ => N - (intOf iv).toNat)
 case atStart => exact ⟨0, Nat.zero_le _, rfl, Slc.nil _ _ _, Lib.hid (Below.refl _ _), Lib.hid (by simp [ownB])⟩
 case round =>
  obtain ⟨i, hi, rfl, S, O, F⟩ := hrel
  obtain ⟨VA, vc, rfl⟩ := slc_val S
  by_cases h' : i < N
  ·have hI : (i : Int) < (N : Int) := by omega
   obtain ⟨f, HG⟩ : ∃ f, Hid (s.l[i]? = some f) := ⟨_, Lib.hid (List.getElem?_eq_getElem (by rw [HN.out]; exact h'))⟩
   obtain ⟨c0, c1, c2, c3, c4⟩ := (HF.out.below O.out) i f HG.out
   have hm := HL.out i
   have hnx := pgL_succ s.l i f HG.out
   have S5 := S.alloc (.cells #[.int .i64 f.page, .string f.pay, .int .i64 f.held, .bool f.dirty, .bool f.used] 150)
   have O5 := Lib.hid (belowAlloc O.out (.cells #[.int .i64 f.page, .string f.pay, .int .i64 f.held, .bool f.dirty, .bool f.used] 150))
   have d0 := (Blk.new wr 150 #[.int .i64 f.page, .string f.pay, .int .i64 f.held, .bool f.dirty, .bool f.used]).cell_some (i := 0) rfl
   by_cases hp : 0 ≤ f.page
   ·rw [if_pos hp] at hnx
    obtain ⟨v', w2, ea, S2, ow, fr⟩ := append_one (P := Tryz.prog) S5 52 52 (.int .i64 0) 8 Tryz.underlying52 info_int2 rfl (.int .i64 f.page) rfl (by unfold maxLen; omega) (by omega)
    obtain ⟨V2, vc2, rfl⟩ := slc_val S2
    rw [show (wr.alloc (.cells #[.int .i64 f.page, .string f.pay, .int .i64 f.held, .bool f.dirty, .bool f.used] 150)).heap.size = wr.heap.size + 1 from by simp] at ea
    have EA := Lib.hid ea
    have SX := Lib.hid (show Slc w2 3 1 (.slice V2 ((pgL (s.l.take i)).length + 1) vc2) (pgL (s.l.take (i + 1))).length (nvs' (pgL (s.l.take (i + 1)))) from by
     rw [hnx, nvs'_append, List.length_append]; exact S2)
    have OX := Lib.hid (O5.out.trans (ow.below_of O5.out.size F.out))
    have FX := Lib.hid (show ∀ g' ∈ ownB (.slice V2 ((pgL (s.l.take i)).length + 1) vc2), w.heap.size ≤ g' from fun g' hg => (fr g' hg).elim (F.out g') (fun h => Nat.le_trans O5.out.size h))
    clear ea S2 ow fr S S5 hnx
    generalize (pgL (s.l.take i)).length = pl at *
    go_wp2_with fail
    rw [EA.out]
    go_wp2_with fail
    go_roundw
    case rel => exact ⟨i + 1, by omega, by go_num, SX.out, OX, FX⟩
    case measure => simp [intOf]; omega
   ·rw [if_neg hp] at hnx
    have SX := Lib.hid S5
    have HX := Lib.hid hnx
    clear S S5 hnx
    go_wp2_with fail
    go_roundw
    case rel => exact ⟨i + 1, by omega, by go_num, by rw [HX.out]; exact SX.out, O5, F⟩
    case measure => simp [intOf]; omega
  ·obtain rfl : N = i := by omega
   have hsl := HL.out N
   have KS := Lib.hid (sort_slc S (by omega))
   clear S
   go_wp2_with fail
   refine KS.out.mono ?_
   rintro e w5 ⟨rfl, S5, o5⟩
   have SX := Lib.hid S5
   have OX := Lib.hid (O.out.trans (o5.below_of O.out.size F.out))
   clear S5 o5
   go_wp2_with fail
   go_ret
   exact ⟨_, by first | rfl | simp, by have h := SX.out; rw [HT.out] at h ⊢; exact h, OX.out⟩
set_option maxRecDepth 100000 in
set_option maxHeartbeats 4000000 in
theorem pcount_any {w : World} {y : Y} {n : Nat} {s : PS} (h : AtP w y n s) :
  Calls Tryz.prog 51 #[pp y.pb] w fun e w' => e = .returned (.tuple #[.int .i64 (s.l.length : Nat), .int .i64 ((pgL s.l).length : Nat), .int .i64 ((s.l.countP fun f => decide (0 < f.held)) : Nat)]) ∧ Below w.heap.size w w' := by
 have p1 : w.cell? ⟨y.pb, 1, none⟩ = some (.slice (some ⟨y.fg, 0, none⟩) s.l.length y.cp) := h.p1
 obtain ⟨N, hN⟩ : ∃ N, s.l.length = N := ⟨_, rfl⟩
 have HN := Lib.hid hN
 have HT := Lib.hid (show ((s.l.take N).countP fun f => decide (0 < f.held)) = (s.l.countP fun f => decide (0 < f.held)) from by rw [← hN, List.take_length])
 have HL := Lib.hid (show ∀ i, ((s.l.take i).countP fun f => decide (0 < f.held)) ≤ 32 from fun i => by
  have h1 : ((s.l.take i).countP fun f => decide (0 < f.held)) ≤ (s.l.take i).length := List.countP_le_length
  have h2 := h.l2
  rw [List.length_take] at h1
  omega)
 have HU := Lib.hid (show ∀ i f, s.l[i]? = some f → ((s.l.take (i + 1)).countP fun f => decide (0 < f.held)) = ((s.l.take i).countP fun f => decide (0 < f.held)) + (if 0 < f.held then 1 else 0) from fun i f hf => by
  obtain ⟨hi, rfl⟩ := List.getElem?_eq_some_iff.1 hf
  rw [List.take_succ_eq_append_getElem hi, List.countP_append]
  simp [List.countP_cons])
 have hl2 : N ≤ 32 := by rw [← hN]; exact h.l2
 rw [hN] at p1 ⊢
 have HF := Lib.hid h.frs
 have KP := Lib.hid (fun W (hb : Below w.heap.size w W) => ppages_any (h.below hb))
 have HP1 := Lib.hid (fun W (hb : Below w.heap.size w W) => (show W.cell? ⟨y.pb, 1, none⟩ = some (.slice (some ⟨y.fg, 0, none⟩) N y.cp) from by rw [← hN]; exact (h.below hb).p1))
 clear h hN
 unfold pp at *
 go_enter Tryz.func51, Tryz.ntmps51
 go_wp2_with fail
 go_loopw [5, 7, 15] (fun kv _ iv wq => ∃ i : Nat, i ≤ N ∧ iv = .int .i64 i ∧ kv = .int .i64 (((s.l.take i).countP fun f => decide (0 < f.held)) : Nat) ∧ Hid (Below w.heap.size w wq)) (fun _ _ iv _ => N - (intOf iv).toNat)
 case atStart => exact ⟨0, Nat.zero_le _, rfl, rfl, Lib.hid (Below.refl _ _)⟩
 case round =>
  obtain ⟨i, hi, rfl, rfl, O⟩ := hrel
  by_cases h' : i < N
  ·have hI : (i : Int) < (N : Int) := by omega
   obtain ⟨f, HG⟩ : ∃ f, Hid (s.l[i]? = some f) := ⟨_, Lib.hid (List.getElem?_eq_getElem (by rw [HN.out]; exact h'))⟩
   obtain ⟨c0, c1, c2, c3, c4⟩ := (HF.out.below O.out) i f HG.out
   have hm := HL.out i
   have hnx := HU.out i f HG.out
   have O5 := Lib.hid (belowAlloc O.out (.cells #[.int .i64 f.page, .string f.pay, .int .i64 f.held, .bool f.dirty, .bool f.used] 150))
   have d2 := (Blk.new wr 150 #[.int .i64 f.page, .string f.pay, .int .i64 f.held, .bool f.dirty, .bool f.used]).cell_some (i := 2) rfl
   have HX := Lib.hid hnx
   clear hnx
   generalize hcn : ((s.l.take i).countP fun f => decide (0 < f.held)) = cn at *
   have ec : IntKind.i64.wrap ((cn : Int) + 1) = ((cn + 1 : Nat) : Int) := IntWalk.i64_in _ (by omega)
   by_cases hp : 0 < f.held
   ·go_wp2_with fail
    go_roundw
    case rel => exact ⟨i + 1, by omega, by go_num, by rw [HX.out, if_pos hp]; try rfl, O5⟩
    case measure => simp [intOf]; omega
   ·go_wp2_with fail
    go_roundw
    case rel => exact ⟨i + 1, by omega, by go_num, by rw [HX.out, if_neg hp]; try rfl, O5⟩
    case measure => simp [intOf]; omega
  ·obtain rfl : N = i := by omega
   rw [HT.out]
   have OD := Lib.hid O.out.drew
   have q1 := HP1.out _ OD.out
   have Q1 := Lib.hid q1
   have hcn := HL.out N
   rw [HT.out] at hcn
   generalize hcq : (s.l.countP fun f => decide (0 < f.held)) = cn at *
   have HCQ := Lib.hid hcq
   clear hcq
   go_wp2_with fail
   refine wp_region_held_drew (S := fun W' => W'.cell? ⟨y.pb, 1, none⟩ = some (.slice (some ⟨y.fg, 0, none⟩) N y.cp)) (by kernel_rfl) (Q1.out) (fun hHeld => ?_)
   refine zpl [(0,25),(1,26),(2,27),(3,28),(4,29),(5,30),(8,33)] ?_
   iterate 7 (refine ztp (v := ?_) rfl (by kernel_rfl) (fun _ _ _ h => h) (by assumption) ?_ ?_; rotate_left; (·intro w hS; (try dsimp only at hS); go_simp; try with_reducible rfl); try simp only [Act.put, pa, pb, pc])
   refine zpe ?_
   refine wpAnyH_ready (rs := [6]) (by kernel_rfl) (by simp) ?_
   refine AllReadyH.cons (o := ⟨some 31, _, _, _, _, _⟩) rfl (fun K hK => ?_) AllReadyH.nil
   go_simp
   go_at_call 47
   refine (KP.out _ OD.out).mono ?_
   rintro e w5 ⟨v5, rfl, S5, hb5⟩
   obtain ⟨V5, vc5, rfl⟩ := slc_val S5
   have O5 := Lib.hid (bstep OD.out hb5)
   have d1 := HP1.out _ O5.out
   clear S5 hb5
   go_simp
   refine hK.out _ _ (d1) (fun hHeld => ?_)
   try simp only [Act.put, pa, pb, pc]
   refine zpl [(7,32),(9,2),(10,3),(11,4)] ?_
   iterate 4 (refine ztp (v := ?_) rfl (by kernel_rfl) (fun _ _ _ h => h) (by assumption) ?_ ?_; rotate_left; (·intro w hS; (try dsimp only at hS); go_simp; try with_reducible rfl); try simp only [Act.put, pa, pb, pc])
   refine zpe ?_
   refine wpAnyH_done (by kernel_rfl) ?_ _
   go_wp2_with fail
   refine bodyPost_ret (v := .tuple #[.int .i64 (N : Nat), .int .i64 ((pgL s.l).length : Nat), .int .i64 (cn : Nat)]) ?_ rfl ⟨by rw [HCQ.out], O5.out⟩
   simp [results, Tryz.results51, go_sem]
end Go.Proofs.YtbelcgjbhpjnpaaGreat.Sh
