/-
  FreemapAborts: for every input the law returns true, and each argument reads behind the call as before. No condition of its own.
-/
import Derived.Test.YtiiknbnaplpidabFmInv
namespace Go.Proofs.Ytiiknbnaplpidab.freemapAborts
open Go.ChangeShapes Go.WideShapes Go.ChangeAt Go.RowKit
open Go.ChangeMaps (open_string shut_string)
set_option linter.unusedVariables false

open Fm
set_option maxRecDepth 100000 in
set_option maxHeartbeats 8000000 in
theorem walk {H : Type} {enc : TypeId × Value → H} {w : World} {base : Nat} {v : Value} {d : DataW H} {ps : List MemPlace} (hok : Value.okWide Try.prog w .any base 22 v) (h : DataW.Trod enc Try.prog w 0 (fun _ => true) true 22 v d ps)
    {v2 : Value} {d2 : DataW H} {ps2 : List MemPlace} (hok2 : Value.okWide Try.prog w .any base 22 v2) (h2 : DataW.Trod enc Try.prog w 0 (fun _ => true) true 22 v2 d2 ps2) :
    Calls Try.prog 5 #[v, v2] w fun e w' => e = .returned (.bool true) ∧ Below w.heap.size w w' := by
  obtain ⟨A, m, c, K, I, rfl, hm, ha⟩ := acts_of hok h
  obtain ⟨A2, m2, c2, K2, I2, rfl, hm2, ha2⟩ := acts_of hok2 h2
  clear hok h hok2 h2
  have KM := Lib.hid (made_yes 12 A m c K I ha hm (by omega))
  have HA := Lib.hid ha2
  clear ha ha2
  unfold mp at KM
  go_enter Try.func5, Try.ntmps5
  go_wp2_with fail
  refine KM.out.mono ?_
  rintro e w1 ⟨b, g, b', v, l, rfl, hM⟩
  go_wp2_with fail
  refine (awake_any _).mono ?_
  rintro e w2 ⟨rfl, hb2⟩
  have M := (hM.both.below hb2).m
  have O2 := bstep hM.below hb2
  have HC := Lib.hid (Since.start hM.ok)
  have hfg := hM.fg
  clear hM hb2 KM
  have KC := Lib.hid (commit_any M)
  unfold mp at KC
  go_wp2_with fail
  refine KC.out.mono ?_
  rintro e w3 ⟨rfl, M3, o3⟩
  have O3 := O2.trans (o3.below_of O2.size (by simpa using hfg))
  clear M o3 O2 KC
  generalize turnF 0 1 l = C at *
  have KL := Lib.hid (list_any M3 0)
  unfold mp at KL
  go_wp2_with fail
  refine KL.out.mono ?_
  rintro e w4 ⟨u, rfl, S4, hb4, F4⟩
  have M4 := M3.below hb4
  have hd4 : g ∉ ownB u := fun hx => by have := F4 g hx; have := M3.hg.lt; omega
  have O4 := bstep O3 hb4
  clear M3 hb4 F4 O3 KL
  have hcl : (listF C 0).length ≤ 1024 := by have := listTo_length C 0 C.length; have := M4.hl; unfold listF; omega
  obtain ⟨A4, c4, rfl⟩ := slc_len S4
  have KL := Lib.hid (list_any M4 1)
  unfold mp at KL
  go_wp2_with fail
  refine KL.out.mono ?_
  rintro e w5 ⟨u, rfl, T4, hb5, F5⟩
  have M5 := M4.below hb5
  have S5 := S4.below hb5
  have hd5 : g ∉ ownB u := fun hx => by have := F5 g hx; have := M4.hg.lt; omega
  have O5 := bstep O4 hb5
  clear M4 S4 hb5 F5 O4 KL
  have hcl1 : (listF C 1).length ≤ 1024 := by have := listTo_length C 1 C.length; have := M5.hl; unfold listF; omega
  obtain ⟨A5, c5, rfl⟩ := slc_len T4
  go_wp2_with fail
  go_loopw [10, 11, 51, 63] (fun i _ _ _ wr => ∃ (k : Nat) (l : List Int), k ≤ 40 ∧ i = .int .i64 k ∧ MapAt wr b g l ∧ Since C l ∧ Slc wr 3 1 (.slice A4 (listF C 0).length c4) (listF C 0).length (ints (listF C 0)) ∧ Slc wr 3 1 (.slice A5 (listF C 1).length c5) (listF C 1).length (ints (listF C 1)) ∧ Below w.heap.size w wr) (fun i _ _ _ _ => 40 - (intOf i).toNat)
  case atStart => exact ⟨0, C, by omega, rfl, M5, HC.out, S5, T4, O5⟩
  case round =>
    obtain ⟨k, l, hk, rfl, M, HS, S, T, O⟩ := hrel
    have HS := Lib.hid HS
    clear M5 S5 T4 O5
    by_cases h : k < m2 ∧ k < 40
    · obtain ⟨h1, h2⟩ := h
      obtain ⟨ad, rfl, e0, e1⟩ := (HA.out.below O) k h1
      generalize K2 k = kind at *
      generalize I2 k = ix at *
      have OX := (Below.refl wr.heap.size wr).alloc (Nat.le_refl _) (.cells #[.int .i64 kind, .int .i64 ix] 32)
      have MX := Lib.hid (M.below OX)
      have SX := Lib.hid (S.below OX)
      have TX := Lib.hid (T.below OX)
      have OX := Lib.hid OX
      have hx : kind = 4 ∨ kind = 5 ∨ (1 ≤ kind ∧ kind ≤ 3) ∨ ((¬ 1 ≤ kind) ∧ kind ≠ 4 ∧ kind ≠ 5) ∨ (1 ≤ kind ∧ (¬ kind ≤ 3) ∧ kind ≠ 4 ∧ kind ≠ 5) := by omega
      rcases hx with rfl | rfl | ⟨k1, k3⟩ | ⟨k1, n4, n5⟩ | ⟨k1, k3, n4, n5⟩
      · have KX := Lib.hid (leave_any MX.out ix)
        unfold mp at KX
        go_wp2_with fail
        refine KX.out.mono ?_
        rintro e w6 ⟨rfl, M6, o6⟩
        go_wp2_with fail
        go_roundw
        case rel => exact ⟨k + 1, (leaveF l ix).1, by omega, by go_num, M6, HS.out.leave ix, SX.out.only o6 (by intro x hx; simp; rintro rfl; exact hd4 hx), TX.out.only o6 (by intro x hx; simp; rintro rfl; exact hd5 hx), (bstep O OX.out).trans (o6.below_of (bstep O OX.out).size (by simpa using hfg))⟩
        case measure => simp [intOf]; omega
      · have KX := Lib.hid (leave_any MX.out ix)
        unfold mp at KX
        go_wp2_with fail
        refine KX.out.mono ?_
        rintro e w6 ⟨rfl, M6, o6⟩
        go_wp2_with fail
        go_roundw
        case rel => exact ⟨k + 1, (leaveF l ix).1, by omega, by go_num, M6, HS.out.leave ix, SX.out.only o6 (by intro x hx; simp; rintro rfl; exact hd4 hx), TX.out.only o6 (by intro x hx; simp; rintro rfl; exact hd5 hx), (bstep O OX.out).trans (o6.below_of (bstep O OX.out).size (by simpa using hfg))⟩
        case measure => simp [intOf]; omega
      · have KX := Lib.hid (take_any MX.out)
        have f4 : (kind == 4) = false := by simp; omega
        have f5 : (kind == 5) = false := by simp; omega
        unfold mp at KX
        go_wp2_with fail
        refine KX.out.mono ?_
        rintro e w6 ⟨rfl, M6, o6⟩
        go_wp2_with fail
        go_roundw
        case rel => exact ⟨k + 1, (takeF l).1, by omega, by go_num, M6, HS.out.take, SX.out.only o6 (by intro x hx; simp; rintro rfl; exact hd4 hx), TX.out.only o6 (by intro x hx; simp; rintro rfl; exact hd5 hx), (bstep O OX.out).trans (o6.below_of (bstep O OX.out).size (by simpa using hfg))⟩
        case measure => simp [intOf]; omega
      all_goals
        have f4 : (kind == 4) = false := by simp; omega
        have f5 : (kind == 5) = false := by simp; omega
        clear n4 n5
        go_wp2_with fail
        go_roundw
        case rel => exact ⟨k + 1, l, by omega, by go_num, MX.out, HS.out, SX.out, TX.out, bstep O OX.out⟩
        case measure => simp [intOf]; omega
    · have hx : ¬ k < m2 ∨ (k < m2 ∧ ¬ k < 40) := by omega
      clear h
      have KX := Lib.hid (abort_any M)
      rw [HS.out.back] at KX
      have N2 := Lib.hid (HC.out.none_ 2 (.inl rfl))
      have N3 := Lib.hid (HC.out.none_ 3 (.inr rfl))
      unfold mp at KX
      rcases hx with h1 | ⟨h0, h1⟩
      all_goals
        go_wp2_with fail
        refine KX.out.mono ?_
        rintro e w6 ⟨rfl, M6, o6⟩
        have S6 := S.only o6 (by intro x hx; simp; rintro rfl; exact hd4 hx)
        have T6 := T.only o6 (by intro x hx; simp; rintro rfl; exact hd5 hx)
        have O6 := O.trans (o6.below_of O.size (by simpa using hfg))
        clear o6
        have K1 := Lib.hid (list_any M6 0)
        unfold mp at K1
        go_wp2_with fail
        refine K1.out.mono ?_
        rintro e w7 ⟨u, rfl, S7, hb7, -⟩
        have M7 := M6.below hb7
        have T7 := T6.below hb7
        have O7 := bstep O6 hb7
        go_wp2_with fail
        refine (ints_same S7 (S6.below hb7) (by omega) rfl).mono ?_
        rintro e w8 ⟨rfl, nq, rfl⟩
        have M8 := M7.drewN nq
        have T8 := T7.drewN nq
        have O8 := Below_drewN O7 nq
        clear M6 M7 T6 T7 O6 O7 S6 S7 hb7
        have K2 := Lib.hid (list_any M8 1)
        unfold mp at K2
        go_wp2_with fail
        refine K2.out.mono ?_
        rintro e w9 ⟨u, rfl, S9, hb9, -⟩
        have M9 := M8.below hb9
        have O9 := bstep O8 hb9
        go_wp2_with fail
        refine (ints_same S9 (T8.below hb9) (by omega) rfl).mono ?_
        rintro e w10 ⟨rfl, nr, rfl⟩
        have M10 := M9.drewN nr
        have O10 := Below_drewN O9 nr
        clear M8 M9 T8 O8 O9 S9 hb9
        have K3 := Lib.hid (list_any M10 2)
        rw [N2.out] at K3
        unfold mp at K3
        go_wp2_with fail
        refine K3.out.mono ?_
        rintro e w11 ⟨u, rfl, S11, hb11, -⟩
        obtain ⟨A11, c11, rfl⟩ := slc_len S11
        have M11 := M10.below hb11
        have O11 := bstep O10 hb11
        have K4 := Lib.hid (list_any M11 3)
        rw [N3.out] at K4
        unfold mp at K4
        go_wp2_with fail
        refine K4.out.mono ?_
        rintro e w12 ⟨u, rfl, S12, hb12, -⟩
        obtain ⟨A12, c12, rfl⟩ := slc_len S12
        go_wp2_with fail
        go_ret
        exact ⟨rfl, bstep O11 hb12⟩

set_option maxRecDepth 100000 in
theorem contract (H : Type) (enc : TypeId × Value → H) (W : World) (base : Nat) (args : Array Value) (ds gs : List (DataW H)) (before : List MemPlace)
    (hval0 : ∀ (j : Nat) t v, Try.f5.params[j]? = some t → args[j]? = some v → Value.okWide Try.prog W .any base t v)
    (hW : DataW.Whole enc Try.prog Try.f5.params.toList Rows.freemapAbortsSpec.vars false W args.toList ds gs before) :
    Calls Try.prog 5 args W fun e W' => ∃ v, e = .returned v ∧ Rows.freemapAbortsSpec.post enc Try.prog Try.f5 false true false false W args v W' := by
  have hval := hval0
  have hW' := hW
  obtain ⟨p, q, hA0, hV, rfl, hfz, hnd⟩ := hW
  have hA : DataW.TrodAll enc Try.prog W 0 (fun _ => true) true Try.f5.params.toList args.toList ds p := hA0
  have hlt : ∀ x ∈ p, x.block < W.heap.size := fun x hx => by simpa using hW'.lt x (List.mem_append_left _ hx)
  rw [Try.params5] at hA hval
  obtain ⟨v0, vs0, d0, ds0, p0, q0, hargs, rfl, rfl, h0, r0⟩ := trodAll_cons hA
  obtain ⟨v1, vs1, d1, ds1, p1, q1, rfl, rfl, rfl, h1, r1⟩ := trodAll_cons r0
  obtain ⟨rfl, rfl, rfl⟩ := trodAll_nil r1
  obtain rfl : args = #[v0, v1] := by cases args; simp_all
  obtain ⟨rfl, rfl⟩ := trodVars_none hV
  refine (walk (hval 0 22 v0 rfl rfl) h0 (hval 1 22 v1 rfl rfl) h1 ).mono fun e W1 ⟨he, hb⟩ => ?_
  subst he
  exact ⟨_, rfl, law_post laidOut hW' rfl (by kernel_rfl) (by rfl) Try.underlying4 rfl hb⟩

set_option maxRecDepth 100000 in
theorem lifted (os : Os) (started : os.Started) (H : Type) (enc : TypeId × Value → H) :
    ReturnsInHanded {} Try.checked os 5 .any (Rows.freemapAbortsSpec.pre6 enc Try.prog Try.f5 Rows.freemapAbortsRow.domain false) (Rows.freemapAbortsSpec.post enc Try.prog Try.f5 false true false false) := by
  refine returnsInHanded_of_change (C := Try.checked) own started (by kernel_rfl) Try.func5
    (ChangeSpec.witness6 (enc := enc) (C := Try.checked) false ⟨#[], #[.slice none 0 0, .slice none 0 0], []⟩ 8 (by kernel_rfl) (by kernel_rfl) (by kernel_rfl) (by kernel_rfl)) ?_
  intro W base args ds gs before hval0 hW hcnd _
  exact contract H enc W base args ds gs before hval0 hW

theorem proved : Rows.FreemapAbortsSaid :=
  OpenClaim.holds_of_wide 5 Try.f5 rfl rfl rfl rfl rfl rfl rfl ⟨rfl, rfl, rfl, rfl, rfl⟩ rfl rfl rfl rfl rfl (by kernel_rfl) Try.func5 (by kernel_rfl)
    (of_decide_eq_true (by kernel_rfl)) (by unfold Func.isWrapper; first | (rw [if_pos (by decide +kernel)]; kernel_rfl) | (rw [if_neg (by decide +kernel)]; exact ⟨rfl, rfl⟩))
    (fun os started H enc _ => lifted os started H enc)
#print axioms proved
end Go.Proofs.Ytiiknbnaplpidab.freemapAborts
