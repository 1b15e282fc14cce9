/-
  FreemapDoes: for every input the law returns true, and each argument reads behind the call as before. No condition of its own.
-/
import Derived.Test.YtiiknbnaplpidabFmLaw
namespace Go.Proofs.Ytiiknbnaplpidab.freemapDoes
open Go.ChangeShapes Go.WideShapes Go.ChangeAt Go.RowKit
open Go.ChangeMaps (open_string shut_string)
set_option linter.unusedVariables false

open Fm
theorem acts_of {H : Type} {enc : TypeId × Value → H} {w : World} {base : Nat} {v : Value} {d : DataW H} {ps : List MemPlace} (hok : Value.okWide Try.prog w .any base 22 v) (h : DataW.Trod enc Try.prog w 0 (fun _ => true) true 22 v d ps) :
    ∃ (A : Option Addr) (n c : Nat) (K I : Nat → Int), v = .slice A n c ∧ n ≤ 9223372036854775807 ∧ Acts w A n K I := by
  obtain ⟨A, n, c, K, I, h1, h2, h3⟩ := pairs_view Try.underlying22 Try.underlying32 (by kernel_rfl) rfl rfl (by kernel_rfl) (by kernel_rfl) Try.underlying3 Try.underlying3 hok h
  exact ⟨A, n, c, K, I, h1, by simpa [maxLen] using h2, Acts.of h3⟩

set_option maxRecDepth 100000 in
set_option maxHeartbeats 4000000 in
theorem walk_in {w : World} (n : Nat) (hn : n ≤ 1024) (A : Option Addr) (m c : Nat) (K I : Nat → Int) (hm : m ≤ 9223372036854775807) (hacts : Acts w A m K I) (o : Int) :
    Calls Try.prog 6 #[.int .i64 n, .slice A m c, .int .i64 o] w fun e w' => e = .returned (.bool true) ∧ Below w.heap.size w w' := by
  have KM := Lib.hid (made_yes n A m c K I hacts hm hn)
  clear hacts
  unfold mp at KM
  go_enter Try.func6, Try.ntmps6
  go_wp2_with fail
  refine KM.out.mono ?_
  rintro e w1 ⟨b, g, b', v, l, rfl, hM⟩
  go_wp2_with fail
  refine (awake_any _).mono ?_
  rintro e w2 ⟨rfl, hb2⟩
  have hB := hM.both.below hb2
  have O2 := bstep hM.below hb2
  have KC := Lib.hid (count_any hB.m)
  have HL := Lib.hid hM.len
  clear hM hb2
  unfold mp at KC
  go_wp2_with fail
  refine KC.out.mono ?_
  rintro e w3 ⟨rfl, hb3⟩
  have hB := hB.below hb3
  have O3 := bstep O2 hb3
  clear hb3 O2 KC
  go_wp2_with fail
  go_loopw [14] (fun i wr => ∃ (k : Nat), k ≤ 5 ∧ i = .int .i64 k ∧ Both wr b g b' v l ∧ Below w.heap.size w wr) (fun i _ => 5 - (intOf i).toNat)
  case atStart => exact ⟨0, by omega, rfl, hB, O3⟩
  case round =>
    obtain ⟨k, hk, rfl, hB, O⟩ := hrel
    by_cases h : k < 5
    · have K1 := Lib.hid (list_any hB.m k)
      unfold mp at K1
      go_wp2_with fail
      refine K1.out.mono ?_
      rintro e w4 ⟨u, rfl, S4, hb4, -⟩
      have hB4 := hB.below hb4
      have K2 := Lib.hid (rlist_any hB4.r k)
      unfold mp at K2
      go_wp2_with fail
      refine K2.out.mono ?_
      rintro e w5 ⟨u', rfl, S5, hb5, -⟩
      have hB5 := hB4.below hb5
      have S4 := S4.below hb5
      have hlen : (listF l k).length ≤ 1000000 := by have := listTo_length l k l.length; have := hB.m.hl; unfold listF; omega
      go_wp2_with fail
      refine (ints_same S4 S5 hlen rfl).mono ?_
      rintro e w6 ⟨rfl, nq, rfl⟩
      go_wp2_with fail
      go_roundw
      case rel => exact ⟨k + 1, by omega, by go_num, hB5.drewN nq, Below_drewN (bstep (bstep O hb4) hb5) nq⟩
      case measure => simp [intOf]; omega
    · have K0 := Lib.hid (rlist_any hB.r 0)
      unfold mp at K0
      have hlen := HL.out
      have c0 := hB.r.c0
      obtain ⟨A0, cc, rfl⟩ := slc_len hB.r.hs
      have hx : (∃ j : Nat, o = j ∧ j < n) ∨ o < 0 ∨ (¬ o < 0 ∧ (n : Int) ≤ o) := by
        rcases Int.lt_or_le o 0 with h1 | h1
        · exact .inr (.inl h1)
        · rcases Int.lt_or_le o n with h2 | h2
          · exact .inl ⟨o.toNat, by omega, by omega⟩
          · exact .inr (.inr ⟨by omega, h2⟩)
      rcases hx with ⟨j, rfl, hj⟩ | h1 | ⟨h1, h2⟩
      · obtain ⟨g2, cap, hv, hcap, hc⟩ := hB.r.fmt (by omega)
        simp only [Value.slice.injEq, true_and] at hv
        obtain ⟨rfl, rfl⟩ := hv
        have cj := hc j (by omega)
        have HF := Lib.hid (show freshF l j = (l.getD j 0 == 2) by simp only [freshF, inF, Int.toNat_natCast]; rw [decide_eq_true (by omega)]; simp)
        clear hc
        generalize l.getD j 0 = x at cj HF
        rw [hlen] at c0
        clear hlen
        go_wp2_with fail
        refine K0.out.mono ?_
        rintro e w4 ⟨u, rfl, S4, hb4, -⟩
        obtain ⟨A4, c4, rfl⟩ := slc_len S4
        have hB4 := hB.below hb4
        have K1 := Lib.hid (rlist_any hB4.r 1)
        unfold mp at K1
        go_wp2_with fail
        refine K1.out.mono ?_
        rintro e w5 ⟨u, rfl, S5, hb5, -⟩
        obtain ⟨A5, c5, rfl⟩ := slc_len S5
        have hB5 := hB4.below hb5
        have K2 := Lib.hid (rlist_any hB5.r 2)
        unfold mp at K2
        go_wp2_with fail
        refine K2.out.mono ?_
        rintro e w6 ⟨u, rfl, S6, hb6, -⟩
        obtain ⟨A6, c6, rfl⟩ := slc_len S6
        have hB6 := hB5.below hb6
        have K3 := Lib.hid (rlist_any hB6.r 3)
        unfold mp at K3
        go_wp2_with fail
        refine K3.out.mono ?_
        rintro e w7 ⟨u, rfl, S7, hb7, -⟩
        obtain ⟨A7, c7, rfl⟩ := slc_len S7
        have hB7 := hB6.below hb7
        have K4 := Lib.hid (free_any hB7.m)
        unfold mp at K4
        go_wp2_with fail
        refine K4.out.mono ?_
        rintro e w8 ⟨rfl, hb8⟩
        have hB8 := hB7.below hb8
        have K5 := Lib.hid (fresh_any hB8.m j)
        rw [HF.out] at K5
        unfold mp at K5
        go_wp2_with fail
        refine K5.out.mono ?_
        rintro e w9 ⟨rfl, rfl⟩
        go_wp2_with fail
        go_ret
        exact ⟨by first | rfl | simp, bstep (bstep (bstep (bstep (bstep O hb4) hb5) hb6) hb7) hb8⟩
      · have HF := Lib.hid (show freshF l o = false by simp only [freshF, inF]; rw [decide_eq_false (by omega)]; simp)
        clear c0 hlen
        go_wp2_with fail
        refine K0.out.mono ?_
        rintro e w4 ⟨u, rfl, S4, hb4, -⟩
        obtain ⟨A4, c4, rfl⟩ := slc_len S4
        have hB4 := hB.below hb4
        have K1 := Lib.hid (rlist_any hB4.r 1)
        unfold mp at K1
        go_wp2_with fail
        refine K1.out.mono ?_
        rintro e w5 ⟨u, rfl, S5, hb5, -⟩
        obtain ⟨A5, c5, rfl⟩ := slc_len S5
        have hB5 := hB4.below hb5
        have K2 := Lib.hid (rlist_any hB5.r 2)
        unfold mp at K2
        go_wp2_with fail
        refine K2.out.mono ?_
        rintro e w6 ⟨u, rfl, S6, hb6, -⟩
        obtain ⟨A6, c6, rfl⟩ := slc_len S6
        have hB6 := hB5.below hb6
        have K3 := Lib.hid (rlist_any hB6.r 3)
        unfold mp at K3
        go_wp2_with fail
        refine K3.out.mono ?_
        rintro e w7 ⟨u, rfl, S7, hb7, -⟩
        obtain ⟨A7, c7, rfl⟩ := slc_len S7
        have hB7 := hB6.below hb7
        have K4 := Lib.hid (free_any hB7.m)
        unfold mp at K4
        go_wp2_with fail
        refine K4.out.mono ?_
        rintro e w8 ⟨rfl, hb8⟩
        have hB8 := hB7.below hb8
        have K5 := Lib.hid (fresh_any hB8.m o)
        rw [HF.out] at K5
        unfold mp at K5
        go_wp2_with fail
        refine K5.out.mono ?_
        rintro e w9 ⟨rfl, rfl⟩
        go_wp2_with fail
        go_ret
        exact ⟨by first | rfl | simp, bstep (bstep (bstep (bstep (bstep O hb4) hb5) hb6) hb7) hb8⟩
      · have HF := Lib.hid (show freshF l o = false by simp only [freshF, inF]; rw [decide_eq_false (by omega)]; simp)
        clear c0 hlen
        go_wp2_with fail
        refine K0.out.mono ?_
        rintro e w4 ⟨u, rfl, S4, hb4, -⟩
        obtain ⟨A4, c4, rfl⟩ := slc_len S4
        have hB4 := hB.below hb4
        have K1 := Lib.hid (rlist_any hB4.r 1)
        unfold mp at K1
        go_wp2_with fail
        refine K1.out.mono ?_
        rintro e w5 ⟨u, rfl, S5, hb5, -⟩
        obtain ⟨A5, c5, rfl⟩ := slc_len S5
        have hB5 := hB4.below hb5
        have K2 := Lib.hid (rlist_any hB5.r 2)
        unfold mp at K2
        go_wp2_with fail
        refine K2.out.mono ?_
        rintro e w6 ⟨u, rfl, S6, hb6, -⟩
        obtain ⟨A6, c6, rfl⟩ := slc_len S6
        have hB6 := hB5.below hb6
        have K3 := Lib.hid (rlist_any hB6.r 3)
        unfold mp at K3
        go_wp2_with fail
        refine K3.out.mono ?_
        rintro e w7 ⟨u, rfl, S7, hb7, -⟩
        obtain ⟨A7, c7, rfl⟩ := slc_len S7
        have hB7 := hB6.below hb7
        have K4 := Lib.hid (free_any hB7.m)
        unfold mp at K4
        go_wp2_with fail
        refine K4.out.mono ?_
        rintro e w8 ⟨rfl, hb8⟩
        have hB8 := hB7.below hb8
        have K5 := Lib.hid (fresh_any hB8.m o)
        rw [HF.out] at K5
        unfold mp at K5
        go_wp2_with fail
        refine K5.out.mono ?_
        rintro e w9 ⟨rfl, rfl⟩
        go_wp2_with fail
        go_ret
        exact ⟨by first | rfl | simp, bstep (bstep (bstep (bstep (bstep O hb4) hb5) hb6) hb7) hb8⟩

set_option maxRecDepth 100000 in
set_option maxHeartbeats 1000000 in
theorem walk_out {w : World} (n : Int) (h : n < 0 ∨ 1024 < n) (A : Option Addr) (m c : Nat) (o : Int) :
    Calls Try.prog 6 #[.int .i64 n, .slice A m c, .int .i64 o] w fun e w' => e = .returned (.bool true) ∧ Below w.heap.size w w' := by
  have KM := Lib.hid (made_no (w := w) n A m c h)
  go_enter Try.func6, Try.ntmps6
  go_wp2_with fail
  refine KM.out.mono ?_
  rintro e w1 ⟨rfl, rfl⟩
  go_wp2_with fail
  refine (awake_any _).mono ?_
  rintro e w2 ⟨rfl, hb2⟩
  go_wp2_with fail
  refine (awake_any _).mono ?_
  rintro e w3 ⟨rfl, hb3⟩
  go_wp2_with fail
  go_ret
  exact ⟨rfl, bstep hb2 hb3⟩
theorem walk {H : Type} {enc : TypeId × Value → H} {w : World} {base : Nat} (n : Int) (_hn : (Lit.int .i64 n).wf = true) {v : Value} {d : DataW H} {ps : List MemPlace} (hok : Value.okWide Try.prog w .any base 22 v) (h : DataW.Trod enc Try.prog w 0 (fun _ => true) true 22 v d ps) (o : Int) (_ho : (Lit.int .i64 o).wf = true) :
    Calls Try.prog 6 #[.int .i64 n, v, .int .i64 o] w fun e w' => e = .returned (.bool true) ∧ Below w.heap.size w w' := by
  obtain ⟨A, m, c, K, I, rfl, hm, ha⟩ := acts_of hok h
  by_cases hn : n < 0 ∨ 1024 < n
  · exact walk_out n hn A m c o
  · obtain ⟨k, rfl⟩ := Int.eq_ofNat_of_zero_le (show 0 ≤ n by omega)
    exact walk_in k (by omega) A m c K I hm ha o

set_option maxRecDepth 100000 in
theorem contract (H : Type) (enc : TypeId × Value → H) (W : World) (base : Nat) (args : Array Value) (ds gs : List (DataW H)) (before : List MemPlace)
    (hval0 : ∀ (j : Nat) t v, Try.f6.params[j]? = some t → args[j]? = some v → Value.okWide Try.prog W .any base t v)
    (hW : DataW.Whole enc Try.prog Try.f6.params.toList Rows.freemapDoesSpec.vars false W args.toList ds gs before) :
    Calls Try.prog 6 args W fun e W' => ∃ v, e = .returned v ∧ Rows.freemapDoesSpec.post enc Try.prog Try.f6 false true false false W args v W' := by
  have hval := hval0
  have hW' := hW
  obtain ⟨p, q, hA0, hV, rfl, hfz, hnd⟩ := hW
  have hA : DataW.TrodAll enc Try.prog W 0 (fun _ => true) true Try.f6.params.toList args.toList ds p := hA0
  have hlt : ∀ x ∈ p, x.block < W.heap.size := fun x hx => by simpa using hW'.lt x (List.mem_append_left _ hx)
  rw [Try.params6] at hA hval
  obtain ⟨v0, vs0, d0, ds0, p0, q0, hargs, rfl, rfl, h0, r0⟩ := trodAll_cons hA
  obtain ⟨v1, vs1, d1, ds1, p1, q1, rfl, rfl, rfl, h1, r1⟩ := trodAll_cons r0
  obtain ⟨v2, vs2, d2, ds2, p2, q2, rfl, rfl, rfl, h2, r2⟩ := trodAll_cons r1
  obtain ⟨rfl, rfl, rfl⟩ := trodAll_nil r2
  obtain rfl : args = #[v0, v1, v2] := by cases args; simp_all
  obtain ⟨rfl, rfl⟩ := trodVars_none hV
  obtain ⟨a0, rfl, rfl, rfl, w0⟩ := open_int Try.underlying3 (hval 0 3 v0 rfl rfl) h0
  obtain ⟨a2, rfl, rfl, rfl, w2⟩ := open_int Try.underlying3 (hval 2 3 v2 rfl rfl) h2
  refine (walk a0 w0 (hval 1 22 v1 rfl rfl) h1 a2 w2 ).mono fun e W1 ⟨he, hb⟩ => ?_
  subst he
  exact ⟨_, rfl, law_post laidOut hW' rfl (by kernel_rfl) (by rfl) Try.underlying4 rfl hb⟩

set_option maxRecDepth 100000 in
theorem lifted (os : Os) (started : os.Started) (H : Type) (enc : TypeId × Value → H) :
    ReturnsInHanded {} Try.checked os 6 .any (Rows.freemapDoesSpec.pre6 enc Try.prog Try.f6 Rows.freemapDoesRow.domain false) (Rows.freemapDoesSpec.post enc Try.prog Try.f6 false true false false) := by
  refine returnsInHanded_of_change (C := Try.checked) own started (by kernel_rfl) Try.func6
    (ChangeSpec.witness6 (enc := enc) (C := Try.checked) false ⟨#[], #[.int .i64 0, .slice none 0 0, .int .i64 0], []⟩ 8 (by kernel_rfl) (by kernel_rfl) (by kernel_rfl) (by kernel_rfl)) ?_
  intro W base args ds gs before hval0 hW hcnd _
  exact contract H enc W base args ds gs before hval0 hW

theorem proved : Rows.FreemapDoesSaid :=
  OpenClaim.holds_of_wide 6 Try.f6 rfl rfl rfl rfl rfl rfl rfl ⟨rfl, rfl, rfl, rfl, rfl⟩ rfl rfl rfl rfl rfl (by kernel_rfl) Try.func6 (by kernel_rfl)
    (of_decide_eq_true (by kernel_rfl)) (by unfold Func.isWrapper; first | (rw [if_pos (by decide +kernel)]; kernel_rfl) | (rw [if_neg (by decide +kernel)]; exact ⟨rfl, rfl⟩))
    (fun os started H enc _ => lifted os started H enc)
#print axioms proved
end Go.Proofs.Ytiiknbnaplpidab.freemapDoes
