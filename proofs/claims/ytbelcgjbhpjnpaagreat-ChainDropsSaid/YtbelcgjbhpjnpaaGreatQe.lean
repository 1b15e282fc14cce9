/- the document's pool by its contracts: Find, read, Held, back. -/
import Derived.Test.YtbelcgjbhpjnpaaGreatQd
import Derived.Test.YtbelcgjbhpjnpaaGreatTb
set_option linter.all false
set_option linter.unusedVariables false
set_option linter.unusedSimpArgs false
namespace Go.Proofs.YtbelcgjbhpjnpaaGreat.Sh
open Go.RowKit Pk Dk Pg
attribute [local go_sem ↓] Go.wp_at_zero Go.wp_at_succ
/-- the document's pool, wherever its parts lie -/
def RX (w : World) (pq rs : Nat) (q : QS) : Prop := ∃ fv nv ov, RPAt w pq rs fv nv ov q
theorem RX.below {w w' : World} {pq rs : Nat} {q : QS} (h : RX w pq rs q) (hb : Below w.heap.size w w') : RX w' pq rs q := by
 obtain ⟨fv, nv, ov, h⟩ := h
 exact ⟨fv, nv, ov, h.below hb⟩
theorem RPAt.doc {w w' : World} {pq rs : Nat} {fv nv ov : Value} {q : QS} (h : RPAt w pq rs fv nv ov q) {a' : St} (p : RTo w w' rs nv ov a') : ∃ nv' ov', RPAt w' pq rs fv nv' ov' { q with a := a' } ∧ Only [pq, rs] w w' := by
 obtain ⟨nv', ov', A, o, _⟩ := p
 refine ⟨nv', ov', ⟨h.hp.only o (by simp; exact h.hp.ne_ h.hs.hb (by decide)), h.hf.only o (fun g hg hm => ?_), A, h.l1, h.l2, h.lh⟩, o.mono (fun g hg _ => by simp at hg; simp [hg])⟩
 rw [List.mem_singleton.1 hm] at hg
 exact slc_ne h.hf h.hs.hb (by decide) hg
set_option maxRecDepth 100000 in
set_option maxHeartbeats 4000000 in
theorem dfind_any {w : World} {pq rs : Nat} {fv nv ov : Value} {q : QS} (h : RPAt w pq rs fv nv ov q) (p : Int) :
  Calls Tryz.prog 169 #[rp pq, .int .i64 p] w fun e w' => e = .returned (.int .i64 (findF q.l p)) ∧ w = w' := by
 obtain ⟨g, cp, rfl⟩ := h.fs
 have p1 := h.p1
 have l2 := h.l2
 have HF := Lib.hid h.frs
 obtain ⟨N, hN⟩ : ∃ N, q.l.length = N := ⟨_, rfl⟩
 have HN := Lib.hid hN
 rw [hN] at p1 l2
 have HE := Lib.hid (show ∀ i, i ≤ N → (∀ j a, j < i → q.l[j]? = some a → ¬ (a.page = p ∧ 0 ≤ p)) → i = N → findF q.l p = -1 from fun i hi ha hn => by
  unfold findF
  by_cases h0 : p < 0
  ·rw [if_pos h0]
  ·rw [if_neg h0]
   exact ixF_miss (fun j a hj => by
    have := ha j a (by rw [hn, ← hN]; exact (List.getElem?_eq_some_iff.1 hj).1) hj
    simp only [decide_eq_false_iff_not]
    intro e
    exact this ⟨e, by omega⟩))
 have HH := Lib.hid (show ∀ (i : Nat) (f : Fr), (∀ (j : Nat) (a : Fr), j < i → q.l[j]? = some a → ¬ (a.page = p ∧ 0 ≤ p)) → q.l[i]? = some f → f.page = p → 0 ≤ p → findF q.l p = i from fun i f ha hf e h0 => by
  unfold findF
  rw [if_neg (by omega)]
  exact ixF_hit hf (by simpa using e) (fun j a hj hja => by
   have := ha j a hj hja
   simp only [decide_eq_false_iff_not]
   intro e
   exact this ⟨e, h0⟩))
 clear h hN
 unfold rp
 go_enter Tryz.func169, Tryz.ntmps169
 go_wp2_with fail
 go_loopw [5] (fun iv wr => ∃ i : Nat, i ≤ N ∧ iv = .int .i64 i ∧ Hid (∀ j a, j < i → q.l[j]? = some a → ¬ (a.page = p ∧ 0 ≤ p)) ∧ wr = w) (fun iv _ => N - (intOf iv).toNat)
 case atStart => exact ⟨0, Nat.zero_le _, rfl, Lib.hid (fun j a hj => absurd hj (Nat.not_lt_zero j)), rfl⟩
 case round =>
  obtain ⟨i, hi, rfl, HA, rfl⟩ := hrel
  by_cases h' : i < N
  ·have hI : (i : Int) < (N : Int) := by omega
   obtain ⟨f, HG⟩ : ∃ f, Hid (q.l[i]? = some f) := ⟨_, Lib.hid (List.getElem?_eq_getElem (by rw [HN.out]; exact h'))⟩
   obtain ⟨c0, c1, c2, c3, c4⟩ := HF.out i f HG.out
   have ei : IntKind.i64.wrap ((i : Int) + 1) = ((i + 1 : Nat) : Int) := IntWalk.i64_in _ (by omega)
   have HS := Lib.hid (show ¬ (f.page = p ∧ 0 ≤ p) → ∀ j a, j < i + 1 → q.l[j]? = some a → ¬ (a.page = p ∧ 0 ≤ p) from fun hn j a hj ha => by
    by_cases hji : j = i
    ·subst hji
     have := HG.out.symm.trans ha
     injection this with this
     rw [← this]; exact hn
    ·exact HA.out j a (by omega) ha)
   by_cases e1 : f.page = p
   ·by_cases e2 : 0 ≤ p
    ·have HR := Lib.hid (HH.out i f HA.out HG.out e1 e2)
     go_wp2_with fail
     go_ret
     exact ⟨by rw [HR.out]; rfl, rfl⟩
    ·have HS2 := Lib.hid (HS.out (fun h => e2 h.2))
     go_wp2_with fail
     go_roundw
     case rel => exact ⟨i + 1, by omega, by go_num, HS2, by first | trivial | rfl⟩
     case measure => simp [intOf]; omega
   ·have HS2 := Lib.hid (HS.out (fun h => e1 h.1))
    go_wp2_with fail
    go_roundw
    case rel => exact ⟨i + 1, by omega, by go_num, HS2, by first | trivial | rfl⟩
    case measure => simp [intOf]; omega
  ·have HR := Lib.hid (HE.out i hi HA.out (by omega))
   go_wp2_with fail
   go_ret
   exact ⟨by rw [HR.out]; rfl, rfl⟩
set_option maxRecDepth 100000 in
set_option maxHeartbeats 4000000 in
theorem dread_any {w : World} {pq rs : Nat} {fv nv ov : Value} {q : QS} (h : RPAt w pq rs fv nv ov q) (p : Int) :
  Calls Tryz.prog 171 #[rp pq, .int .i64 p] w fun e w' => e = .returned (.tuple #[.string ⟨(q.a.readF p).1.toArray⟩, .int .i64 (q.a.readF p).2]) ∧ w = w' := by
 have p0 := h.p0
 have f1 := h.hs.f1
 have ln := h.hs.ln
 obtain ⟨A, cc, rfl⟩ := h.hs.hn.val
 by_cases h0 : p < 0
 ·have hr : q.a.readF p = ([], 3) := by
   unfold St.readF St.at
   rw [if_neg (by omega)]
  rw [hr]
  clear h hr
  unfold rp
  go_enter Tryz.func171, Tryz.ntmps171
  go_wp2_with fail
  go_ret2
  exact ⟨rfl, rfl⟩
 by_cases h1 : (q.a.now.length : Int) ≤ p
 ·have hr : q.a.readF p = ([], 3) := by
   unfold St.readF St.at
   rw [if_pos (by omega), List.getElem?_eq_none (by omega)]
   rfl
  rw [hr]
  clear h hr
  unfold rp
  go_enter Tryz.func171, Tryz.ntmps171
  go_wp2_with fail
  go_ret2
  exact ⟨rfl, rfl⟩
 obtain ⟨k, rfl⟩ := Int.eq_ofNat_of_zero_le (show 0 ≤ p by omega)
 have hk : k < q.a.now.length := by omega
 have hkI : (k : Int) < (q.a.now.length : Int) := by omega
 obtain ⟨u, hu⟩ : ∃ u, q.a.now[k]? = some u := ⟨_, List.getElem?_eq_getElem hk⟩
 obtain ⟨g, cp, e, c0, c1, c2⟩ := h.hs.hn.get k u hu
 injection e with e1 e2 e3
 subst e1 e3
 have hat : q.a.at (k : Nat) = u := by
  unfold St.at
  rw [if_pos (by omega), show ((k : Nat) : Int).toNat = k by omega, hu]
  rfl
 clear h e2
 rcases u with _ | ⟨fr, b⟩
 ·have hr : q.a.readF (k : Nat) = ([], 3) := by unfold St.readF; rw [hat]
  rw [hr]
  change w.cell? ⟨g, k * 3, none⟩ = some (.bool false) at c0
  clear hr hat hu
  unfold rp
  go_enter Tryz.func171, Tryz.ntmps171
  go_wp2_with fail
  go_ret2
  exact ⟨rfl, rfl⟩
 ·have hr : q.a.readF (k : Nat) = (b, 0) := by unfold St.readF; rw [hat]
  rw [hr]
  change w.cell? ⟨g, k * 3, none⟩ = some (.bool true) at c0
  change w.cell? ⟨g, k * 3 + 2, none⟩ = some (.string ⟨b.toArray⟩) at c2
  clear hr hat hu
  generalize (⟨b.toArray⟩ : ByteArray) = BB at *
  unfold rp
  go_enter Tryz.func171, Tryz.ntmps171
  go_wp2_with fail
  go_ret2
  exact ⟨rfl, rfl⟩
set_option maxRecDepth 100000 in
set_option maxHeartbeats 4000000 in
theorem dheld_any {w : World} {pq rs : Nat} {fv nv ov : Value} {q : QS} (h : RPAt w pq rs fv nv ov q) :
  Calls Tryz.prog 124 #[rp pq] w fun e w' => e = .returned (.int .i64 (q.heldN : Nat)) ∧ w = w' := by
 obtain ⟨g, cp, rfl⟩ := h.fs
 have p1 := h.p1
 have l2 := h.l2
 have HF := Lib.hid h.frs
 obtain ⟨N, hN⟩ : ∃ N, q.l.length = N := ⟨_, rfl⟩
 have HN := Lib.hid hN
 have HT := Lib.hid (show ((q.l.take N).countP fun f => decide (0 < f.held)) = q.heldN from by rw [← hN, List.take_length]; rfl)
 have HL := Lib.hid (show ∀ i, ((q.l.take i).countP fun f => decide (0 < f.held)) ≤ 32 from fun i => by
  have h1 : ((q.l.take i).countP fun f => decide (0 < f.held)) ≤ (q.l.take i).length := List.countP_le_length
  rw [List.length_take] at h1
  omega)
 have HU := Lib.hid (show ∀ i f, q.l[i]? = some f → ((q.l.take (i + 1)).countP fun f => decide (0 < f.held)) = ((q.l.take i).countP fun f => decide (0 < f.held)) + (if 0 < f.held then 1 else 0) from fun i f hf => by
  obtain ⟨hi, rfl⟩ := List.getElem?_eq_some_iff.1 hf
  rw [List.take_succ_eq_append_getElem hi, List.countP_append]
  simp [List.countP_cons])
 rw [hN] at p1 l2
 clear h hN
 unfold rp
 go_enter Tryz.func124, Tryz.ntmps124
 go_wp2_with fail
 go_loopw [3, 4] (fun kv iv wr => ∃ i : Nat, i ≤ N ∧ iv = .int .i64 i ∧ kv = .int .i64 (((q.l.take i).countP fun f => decide (0 < f.held)) : Nat) ∧ wr = w) (fun _ iv _ => N - (intOf iv).toNat)
 case atStart => exact ⟨0, Nat.zero_le _, rfl, rfl, rfl⟩
 case round =>
  obtain ⟨i, hi, rfl, rfl, rfl⟩ := hrel
  by_cases h' : i < N
  ·have hI : (i : Int) < (N : Int) := by omega
   obtain ⟨f, HG⟩ : ∃ f, Hid (q.l[i]? = some f) := ⟨_, Lib.hid (List.getElem?_eq_getElem (by rw [HN.out]; exact h'))⟩
   obtain ⟨c0, c1, c2, c3, c4⟩ := HF.out i f HG.out
   have hm := HL.out i
   have HX := Lib.hid (HU.out i f HG.out)
   have ei : IntKind.i64.wrap ((i : Int) + 1) = ((i + 1 : Nat) : Int) := IntWalk.i64_in _ (by omega)
   generalize hcn : ((q.l.take i).countP fun f => decide (0 < f.held)) = cn at *
   have ec : IntKind.i64.wrap ((cn : Int) + 1) = ((cn + 1 : Nat) : Int) := IntWalk.i64_in _ (by omega)
   by_cases hp : 0 < f.held
   ·go_wp2_with fail
    go_roundw
    case rel => exact ⟨i + 1, by omega, by go_num, by rw [HX.out, if_pos hp]; try rfl, by first | trivial | rfl⟩
    case measure => simp [intOf]; omega
   ·go_wp2_with fail
    go_roundw
    case rel => exact ⟨i + 1, by omega, by go_num, by rw [HX.out, if_neg hp]; try rfl, by first | trivial | rfl⟩
    case measure => simp [intOf]; omega
  ·obtain rfl : N = i := by omega
   rw [HT.out]
   go_wp2_with fail
   go_ret
   exact ⟨rfl, rfl⟩
set_option maxRecDepth 100000 in
set_option maxHeartbeats 4000000 in
theorem dback_any {w : World} {pq rs n K : Nat} {fv nv ov : Value} {q : QS} (h : RPAt w pq rs fv nv ov q) (hk : q.a.fresh + q.a.kept ≤ q.a.many) (k : Nat) (hkl : k < q.l.length) (hs : ∀ f ∈ q.l, f.pay.size ≤ 1000) :
  Calls Tryz.prog 125 #[rp pq, .int .i64 (k : Nat)] w fun e w' => e = .returned (.int .i64 (q.backF k).2) ∧ RX w' pq rs (q.backF k).1 ∧ Only [pq, rs] w w' := by
 obtain ⟨g, cp, rfl⟩ := h.fs
 have p1 := h.p1
 have l2 := h.l2
 have hf := frD_get hkl
 have hsz := hs _ (List.mem_of_getElem? hf)
 have HB : ∀ f, frD q.l k = f → q.backF k = if f.dirty = true then (if (q.a.writeF f.page f.pay.data.toList).2 = 0 then ({ q with a := (q.a.writeF f.page f.pay.data.toList).1, l := q.l.set k { f with dirty := false } }, 0) else ({ q with a := (q.a.writeF f.page f.pay.data.toList).1 }, (q.a.writeF f.page f.pay.data.toList).2)) else (q, 0) := fun f e => by
  unfold QS.backF
  rw [e]
 obtain ⟨f, hfe⟩ : ∃ f, frD q.l k = f := ⟨_, rfl⟩
 have hB := HB f hfe
 rw [hfe] at hf hsz
 clear HB hfe
 obtain ⟨c0, c1, c2, c3, c4⟩ := h.frs k f hf
 have hkI : (k : Int) < (q.l.length : Int) := by omega
 have O1 := Lib.hid (belowAlloc (Below.refl w.heap.size w) (.cells #[.int .i64 f.page, .string f.pay, .int .i64 f.held, .bool f.dirty, .bool f.used] 88))
 have H0 := Lib.hid (show RX w pq rs q from ⟨_, _, _, h⟩)
 rw [hB]
 cases hd : f.dirty with
 | false =>
  rw [if_neg (by simp)]
  rw [hd] at c3 O1
  have d3 := (Blk.new w 88 #[.int .i64 f.page, .string f.pay, .int .i64 f.held, .bool false, .bool f.used]).cell_some (i := 3) rfl
  clear h hB hf hd hs
  unfold rp
  go_enter Tryz.func125, Tryz.ntmps125
  go_wp2_with fail
  go_ret
  exact ⟨by first | rfl | simp, H0.out.below O1.out, Only.of_below O1.out⟩
 | true =>
  rw [if_pos rfl]
  rw [hd] at c3 O1
  have KW := Lib.hid (fun (W : World) (H : RPAt W pq rs (.slice (some ⟨g, 0, none⟩) q.l.length cp) nv ov q) => rwrite14_any H.hs hk f.page f.pay (by omega))
  obtain ⟨fb, hfb⟩ : ∃ fb, w.heap.size = fb := ⟨_, rfl⟩
  have BF := Blk.new w 88 #[.int .i64 f.page, .string f.pay, .int .i64 f.held, .bool true, .bool f.used]
  have AN := h.below O1.out
  obtain ⟨w1, hw1⟩ : ∃ w1, w.alloc (.cells #[.int .i64 f.page, .string f.pay, .int .i64 f.held, .bool true, .bool f.used] 88) = w1 := ⟨_, rfl⟩
  have NB := Lib.hid (show fb ∉ [pq, rs] from by
   have := h.hp.lt
   have := h.hs.hb.lt
   simp
   omega)
  rw [hw1] at BF AN O1
  have d3 := BF.cell_some (i := 3) rfl
  rw [hfb] at BF
  have HFB := Lib.hid hfb
  have NF := Lib.hid (show ∀ (x : Nat) {W : World} {nv' ov' : Value} {q' : QS} {cs : Array Value}, RPAt W pq rs (.slice (some ⟨g, 0, none⟩) q.l.length cp) nv' ov' q' → Blk W fb 88 cs → x ∈ pq :: rs :: (ownB (.slice (some ⟨g, 0, none⟩) q.l.length cp) ++ (ownB nv' ++ ownB ov')) → x ≠ fb from fun x W nv' ov' q' cs H B hx => by
   have hg := h.hf.lt g (by simp [ownB])
   simp only [List.mem_cons, List.mem_append] at hx
   rcases hx with rfl | rfl | hx | hx
   ·exact H.hp.ne_ B (by decide)
   ·exact H.hs.hb.ne_ B (by decide)
   ·simp [ownB] at hx; omega
   ·obtain ⟨t, cs', ht, B'⟩ := H.hs.blk' x (by simp; right; exact List.mem_append.1 (List.mem_append.2 hx))
    rcases ht with rfl | rfl <;> exact B'.ne_ B (by decide))
  have BD := Lib.hid BF.drew
  have AD := Lib.hid (show RPAt w1.drew pq rs (.slice (some ⟨g, 0, none⟩) q.l.length cp) nv ov q from AN.below (Below.refl _ _).drew)
  have OD := Lib.hid (show Only [pq, rs] w w1.drew from Only.of_below O1.out.drew)
  have S0 := Lib.hid (show (fun W' => W'.cell? ⟨pq, 0, none⟩ = some (.pointer (some ⟨rs, 0, none⟩)) ∧ W'.cell? ⟨fb, 0, none⟩ = some (.int .i64 f.page) ∧ W'.cell? ⟨fb, 1, none⟩ = some (.string f.pay)) w1.drew from ⟨AD.out.p0, BD.out.cell_some (i := 0) rfl, BD.out.cell_some (i := 1) rfl⟩)
  obtain ⟨R, hR⟩ : ∃ R, q.a.writeF f.page f.pay.data.toList = R := ⟨_, rfl⟩
  rw [hR] at KW ⊢
  have HF := Lib.hid hf
  have HK := Lib.hid hkl
  have KS := Lib.hid (fun (W : World) (fv nv ov : Value) (q' : QS) (H : RPAt W pq rs fv nv ov q') (hl : k < q'.l.length) (f' : Fr) => dset_any H k hl f')
  obtain ⟨Q2, hQ⟩ : ∃ Q2, (if R.2 = 0 then (({ q with a := R.1, l := q.l.set k { f with dirty := false } } : QS), (0 : Int)) else ({ q with a := R.1 }, R.2)) = Q2 := ⟨_, rfl⟩
  have HQ := Lib.hid hQ
  rw [hQ]
  obtain ⟨Ra, Re⟩ := R
  dsimp only at KW HQ
  clear h hB hf hd hs BF AN hR hQ hkl hk
  unfold rp Fr.agg at *
  go_enter Tryz.func125, Tryz.ntmps125
  clear hfb
  go_wp2_with fail
  clear d3
  rw [HFB.out]
  clear hw1
  refine wp_region_held_drew (S := fun W' => W'.cell? ⟨pq, 0, none⟩ = some (.pointer (some ⟨rs, 0, none⟩)) ∧ W'.cell? ⟨fb, 0, none⟩ = some (.int .i64 f.page) ∧ W'.cell? ⟨fb, 1, none⟩ = some (.string f.pay)) (by kernel_rfl) (S0.out) (fun hHeld => ?_)
  refine zpl [(0,17),(1,18),(2,19),(3,20),(4,21),(5,22),(6,23),(7,24)] ?_
  iterate 8 (refine ztp (v := ?_) rfl (by kernel_rfl) (fun _ _ _ h => h) (by assumption) ?_ ?_; rotate_left; (·intro w hS; (try dsimp only at hS); go_simp; try with_reducible rfl); try simp only [Act.put, pa, pb, pc])
  refine zpe ?_
  refine wpAnyH_ready (rs := [8]) (by kernel_rfl) (by simp) ?_
  refine AllReadyH.cons (o := ⟨some 25, _, _, _, _, _⟩) rfl (fun K hK => ?_) AllReadyH.nil
  go_simp
  go_at_call 71
  refine (KW.out _ AD.out).mono ?_
  rintro e w5 ⟨rfl, p5⟩
  obtain ⟨nv5, ov5, a5, x5⟩ := AD.out.doc p5
  have A5 := Lib.hid a5
  have O5 := Lib.hid (OD.out.trans x5)
  have B5 := Lib.hid (BD.out.only x5 NB.out)
  clear p5 x5 a5
  have q0 := A5.out.p0
  have b0 := B5.out.cell_some (i := 0) rfl
  have b1 := B5.out.cell_some (i := 1) rfl
  go_simp
  refine hK.out _ _ (⟨q0, b0, b1⟩) (fun hHeld => ?_)
  try simp only [Act.put, pa, pb, pc]
  refine zpl [(9,6)] ?_
  iterate 1 (refine ztp (v := ?_) rfl (by kernel_rfl) (fun _ _ _ h => h) (by assumption) ?_ ?_; rotate_left; (·intro w hS; (try dsimp only at hS); go_simp; try with_reducible rfl); try simp only [Act.put, pa, pb, pc])
  refine zpe ?_
  refine wpAnyH_done (by kernel_rfl) ?_ _
  by_cases he : Re = 0
  ·subst he
   have HR := Lib.hid (HQ.out.symm.trans (if_pos rfl))
   clear HQ
   have z3 := B5.out.frozen 3 (by simp)
   have b3 := B5.out.cell_some (i := 3) rfl
   have o6 := (Only.refl [fb] w5).setCell (p := ⟨fb, 3, none⟩) (by simp) (.bool false)
   have A7 := A5.out.only o6 (fun x hx hm => NF.out x A5.out B5.out hx (by simpa using hm))
   have B7 := B5.out.set_ 3 (.bool false)
   have KS7 := Lib.hid (KS.out _ _ _ _ _ A7 HK.out { f with dirty := false })
   have O7 := Lib.hid (O5.out.trans_of o6 (fun x hx hlt => by simp at hx; subst hx; have := HFB.out; omega))
   have d0 := B7.cell_some (i := 0) rfl
   have d1 := B7.cell_some (i := 1) rfl
   have d2 := B7.cell_some (i := 2) rfl
   have d3' := B7.cell_some (i := 3) rfl
   have d4 := B7.cell_some (i := 4) rfl
   clear A7 B7 o6 b0 b1
   go_wp2_with fail
   refine KS7.out.mono ?_
   rintro e w8 ⟨rfl, fv8, A8, o8⟩
   have X8 := Lib.hid A8
   have O8 := Lib.hid (O7.out.trans (o8.mono (fun x hx _ => by simp at hx; simp [hx])))
   clear A8 o8
   go_wp2_with fail
   go_ret
   exact ⟨by rw [HR.out]; rfl, by rw [HR.out]; exact ⟨_, _, _, X8.out⟩, O8.out⟩
  ·have HR := Lib.hid (HQ.out.symm.trans (if_neg he))
   clear HQ
   have hq : (Re == 0) = false := by rw [beq_eq_false_iff_ne]; exact he
   have hq2 : (Re != 0) = true := by rw [bne_iff_ne]; exact he
   go_wp2_with fail
   go_ret
   exact ⟨by rw [HR.out]; rfl, by rw [HR.out]; exact ⟨_, _, _, A5.out⟩, O5.out⟩
end Go.Proofs.YtbelcgjbhpjnpaaGreat.Sh
