/-
  FreemapKept: for every input the law returns true, and each argument reads behind the call as before. No condition of its own.
-/
import Derived.Test.YtiiknbnaplpidabFmInv
namespace Go.Proofs.Ytiiknbnaplpidab.freemapKept
open Go.ChangeShapes Go.WideShapes Go.ChangeAt Go.RowKit
open Go.ChangeMaps (open_string shut_string)
set_option linter.unusedVariables false

open Fm
set_option maxRecDepth 100000 in
set_option maxHeartbeats 8000000 in
theorem walk {H : Type} {enc : TypeId × Value → H} {w : World} {base : Nat} {v : Value} {d : DataW H} {ps : List MemPlace} (hok : Value.okWide Try.prog w .any base 22 v) (h : DataW.Trod enc Try.prog w 0 (fun _ => true) true 22 v d ps)
    {v2 : Value} {d2 : DataW H} {ps2 : List MemPlace} (hok2 : Value.okWide Try.prog w .any base 22 v2) (h2 : DataW.Trod enc Try.prog w 0 (fun _ => true) true 22 v2 d2 ps2) :
    Calls Try.prog 4 #[v, v2] w fun e w' => e = .returned (.bool true) ∧ Below w.heap.size w w' := by
  obtain ⟨A, m, c, K, I, rfl, hm, ha⟩ := acts_of hok h
  obtain ⟨A2, m2, c2, K2, I2, rfl, hm2, ha2⟩ := acts_of hok2 h2
  clear hok h hok2 h2
  have KM := Lib.hid (made_yes 12 A m c K I ha hm (by omega))
  have HA := Lib.hid ha2
  clear ha ha2
  unfold mp at KM
  go_enter Try.func4, Try.ntmps4
  go_wp2_with fail
  refine KM.out.mono ?_
  rintro e w1 ⟨b, g, b', v, l, rfl, hM⟩
  go_wp2_with fail
  refine (awake_any _).mono ?_
  rintro e w2 ⟨rfl, hb2⟩
  have M := (hM.both.below hb2).m
  have O2 := bstep hM.below hb2
  have HC := Lib.hid (Since.start hM.ok)
  have hfg := hM.fg
  clear hM hb2 KM
  have KC := Lib.hid (commit_any M)
  unfold mp at KC
  go_wp2_with fail
  refine KC.out.mono ?_
  rintro e w3 ⟨rfl, M3, o3⟩
  have O3 := O2.trans (o3.below_of O2.size (by simpa using hfg))
  clear M o3 O2 KC
  generalize turnF 0 1 l = C at *
  have KL := Lib.hid (list_any M3 1)
  unfold mp at KL
  go_wp2_with fail
  refine KL.out.mono ?_
  rintro e w4 ⟨u, rfl, S4, hb4, F4⟩
  have M4 := M3.below hb4
  have hd4 : g ∉ ownB u := fun hx => by have := F4 g hx; have := M3.hg.lt; omega
  have O4 := bstep O3 hb4
  clear M3 hb4 F4 O3 KL
  have hcl : (listF C 1).length ≤ 1024 := by have := listTo_length C 1 C.length; have := M4.hl; unfold listF; omega
  obtain ⟨A4, c4, rfl⟩ := slc_len S4
  go_wp2_with fail
  go_loopw [9, 10, 11, 12, 14, 68, 62, 49, 82, 83, 84] (fun i _ _ _ _ _ _ _ _ _ _ wr => ∃ (k : Nat) (l : List Int), k ≤ 40 ∧ i = .int .i64 k ∧ MapAt wr b g l ∧ Since C l ∧ Slc wr 3 1 (.slice A4 (listF C 1).length c4) (listF C 1).length (ints (listF C 1)) ∧ Below w.heap.size w wr) (fun i _ _ _ _ _ _ _ _ _ _ _ => 40 - (intOf i).toNat)
  case atStart => exact ⟨0, C, by omega, rfl, M4, HC.out, S4, O4⟩
  case round =>
    obtain ⟨k, l, hk, rfl, M, HS, S, O⟩ := hrel
    have HS := Lib.hid HS
    clear M4 S4 O4
    by_cases h : k < m2 ∧ k < 40
    · obtain ⟨h1, h2⟩ := h
      obtain ⟨ad, rfl, e0, e1⟩ := (HA.out.below O) k h1
      generalize K2 k = kind at *
      generalize I2 k = ix at *
      have OX := (Below.refl wr.heap.size wr).alloc (Nat.le_refl _) (.cells #[.int .i64 kind, .int .i64 ix] 32)
      have MX := Lib.hid (M.below OX)
      have SX := Lib.hid (S.below OX)
      have OX := Lib.hid OX
      have hx : kind = 4 ∨ kind = 5 ∨ kind = 7 ∨ (1 ≤ kind ∧ kind ≤ 3) ∨ ((¬ 1 ≤ kind) ∧ kind ≠ 4 ∧ kind ≠ 5 ∧ kind ≠ 7) ∨ (1 ≤ kind ∧ (¬ kind ≤ 3) ∧ kind ≠ 4 ∧ kind ≠ 5 ∧ kind ≠ 7) := by omega
      rcases hx with rfl | rfl | rfl | ⟨k1, k3⟩ | ⟨k1, n4, n5, n7⟩ | ⟨k1, k3, n4, n5, n7⟩
      · have KX := Lib.hid (leave_any MX.out ix)
        unfold mp at KX
        go_wp2_with fail
        refine KX.out.mono ?_
        rintro e w5 ⟨rfl, M5, o5⟩
        go_wp2_with fail
        go_roundw
        case rel => exact ⟨k + 1, (leaveF l ix).1, by omega, by go_num, M5, HS.out.leave ix, SX.out.only o5 (by intro x hx; simp; rintro rfl; exact hd4 hx), (bstep O OX.out).trans (o5.below_of (bstep O OX.out).size (by simpa using hfg))⟩
        case measure => simp [intOf]; omega
      · have KX := Lib.hid (leave_any MX.out ix)
        unfold mp at KX
        go_wp2_with fail
        refine KX.out.mono ?_
        rintro e w5 ⟨rfl, M5, o5⟩
        go_wp2_with fail
        go_roundw
        case rel => exact ⟨k + 1, (leaveF l ix).1, by omega, by go_num, M5, HS.out.leave ix, SX.out.only o5 (by intro x hx; simp; rintro rfl; exact hd4 hx), (bstep O OX.out).trans (o5.below_of (bstep O OX.out).size (by simpa using hfg))⟩
        case measure => simp [intOf]; omega
      · have KX := Lib.hid (abort_any MX.out)
        unfold mp at KX
        go_wp2_with fail
        refine KX.out.mono ?_
        rintro e w5 ⟨rfl, M5, o5⟩
        go_wp2_with fail
        go_roundw
        case rel => exact ⟨k + 1, turnF 1 0 l, by omega, by go_num, M5, HS.out.abort, SX.out.only o5 (by intro x hx; simp; rintro rfl; exact hd4 hx), (bstep O OX.out).trans (o5.below_of (bstep O OX.out).size (by simpa using hfg))⟩
        case measure => simp [intOf]; omega
      · have KX := Lib.hid (take_any MX.out)
        unfold mp at KX
        have f4 : (kind == 4) = false := by simp; omega
        have f5 : (kind == 5) = false := by simp; omega
        have f7 : (kind == 7) = false := by simp; omega
        by_cases hf : firstF l 0 < l.length
        · have HAP := Lib.hid (HS.out.apart hf)
          have HT := Lib.hid (show takeF l = (l.set (firstF l 0) 2, (firstF l 0 : Int), 0) by rw [takeF, if_pos hf])
          have HT2 := Lib.hid (show (takeF l).2.2 = 0 by rw [HT.out])
          have HT1 := Lib.hid (show (takeF l).2.1 = (firstF l 0 : Int) by rw [HT.out])
          rw [HT1.out, HT2.out] at KX
          generalize firstF l 0 = p at *
          clear hf
          go_wp2_with fail
          refine KX.out.mono ?_
          rintro e w5 ⟨rfl, M5, o5⟩
          have S5 := SX.out.only o5 (by intro x hx; simp; rintro rfl; exact hd4 hx)
          have O5 := (bstep O OX.out).trans (o5.below_of (bstep O OX.out).size (by simpa using hfg))
          have HST := Lib.hid HS.out.take
          clear o5
          go_wp2_with fail
          go_loop [14, 84] (fun _ i => ∃ j : Nat, j ≤ (listF C 1).length ∧ i = .int .i64 j) (fun _ i => (listF C 1).length - (intOf i).toNat)
          case atStart => exact ⟨0, by omega, rfl⟩
          case round =>
            obtain ⟨j, hj, rfl⟩ := hrel
            by_cases hjl : j < (listF C 1).length
            · obtain ⟨gA, cap, rest, hv, BA, hcap, _⟩ := S5.form (by omega) (by omega)
              simp only [Value.slice.injEq, true_and] at hv
              obtain ⟨rfl, rfl⟩ := hv
              have cx : w5.cell? ⟨gA, j, none⟩ = some (.int .i64 (listF C 1)[j]) := BA.cell_some (by rw [List.getElem?_toArray, List.getElem?_append_left (by simpa using hjl), ints_get _ _ hjl])
              have hne : ((listF C 1)[j] == (p : Int)) = false := by simpa using HAP.out _ (List.getElem_mem hjl)
              generalize (listF C 1)[j] = x at *
              go_wp2_with fail
              go_round
              case rel => exact ⟨j + 1, by omega, by go_num⟩
              case measure => simp [intOf]; omega
            · go_wp2_with fail
              go_roundw
              case rel => exact ⟨k + 1, (takeF l).1, by omega, by go_num, M5, HST.out, S5, O5⟩
              case measure => simp [intOf]; omega
        · have HT := Lib.hid (show takeF l = (l, 0, 11) by rw [takeF, if_neg hf])
          have HT2 := Lib.hid (show (takeF l).2.2 = 11 by rw [HT.out])
          have HT1 := Lib.hid (show (takeF l).2.1 = 0 by rw [HT.out])
          rw [HT1.out, HT2.out] at KX
          clear hf
          go_wp2_with fail
          refine KX.out.mono ?_
          rintro e w5 ⟨rfl, M5, o5⟩
          have S5 := SX.out.only o5 (by intro x hx; simp; rintro rfl; exact hd4 hx)
          have O5 := (bstep O OX.out).trans (o5.below_of (bstep O OX.out).size (by simpa using hfg))
          have HST := Lib.hid HS.out.take
          clear o5
          go_wp2_with fail
          go_loop [14, 84] (fun _ i => ∃ j : Nat, j ≤ (listF C 1).length ∧ i = .int .i64 j) (fun _ i => (listF C 1).length - (intOf i).toNat)
          case atStart => exact ⟨0, by omega, rfl⟩
          case round =>
            obtain ⟨j, hj, rfl⟩ := hrel
            by_cases hjl : j < (listF C 1).length
            · obtain ⟨gA, cap, rest, hv, BA, hcap, _⟩ := S5.form (by omega) (by omega)
              simp only [Value.slice.injEq, true_and] at hv
              obtain ⟨rfl, rfl⟩ := hv
              have cx : w5.cell? ⟨gA, j, none⟩ = some (.int .i64 (listF C 1)[j]) := BA.cell_some (by rw [List.getElem?_toArray, List.getElem?_append_left (by simpa using hjl), ints_get _ _ hjl])
              generalize (listF C 1)[j] = x at *
              go_wp2_with fail
              go_round
              case rel => exact ⟨j + 1, by omega, by go_num⟩
              case measure => simp [intOf]; omega
            · go_wp2_with fail
              go_roundw
              case rel => exact ⟨k + 1, (takeF l).1, by omega, by go_num, M5, HST.out, S5, O5⟩
              case measure => simp [intOf]; omega
      all_goals
        have f4 : (kind == 4) = false := by simp; omega
        have f5 : (kind == 5) = false := by simp; omega
        have f7 : (kind == 7) = false := by simp; omega
        clear n4 n5 n7
        go_wp2_with fail
        go_roundw
        case rel => exact ⟨k + 1, l, by omega, by go_num, MX.out, HS.out, SX.out, bstep O OX.out⟩
        case measure => simp [intOf]; omega
    · have hx : ¬ k < m2 ∨ (k < m2 ∧ ¬ k < 40) := by omega
      clear h
      rcases hx with h1 | ⟨h0, h1⟩
      all_goals
        go_wp2_with fail
        go_ret
        exact ⟨rfl, O⟩

set_option maxRecDepth 100000 in
theorem contract (H : Type) (enc : TypeId × Value → H) (W : World) (base : Nat) (args : Array Value) (ds gs : List (DataW H)) (before : List MemPlace)
    (hval0 : ∀ (j : Nat) t v, Try.f4.params[j]? = some t → args[j]? = some v → Value.okWide Try.prog W .any base t v)
    (hW : DataW.Whole enc Try.prog Try.f4.params.toList Rows.freemapKeptSpec.vars false W args.toList ds gs before) :
    Calls Try.prog 4 args W fun e W' => ∃ v, e = .returned v ∧ Rows.freemapKeptSpec.post enc Try.prog Try.f4 false true false false W args v W' := by
  have hval := hval0
  have hW' := hW
  obtain ⟨p, q, hA0, hV, rfl, hfz, hnd⟩ := hW
  have hA : DataW.TrodAll enc Try.prog W 0 (fun _ => true) true Try.f4.params.toList args.toList ds p := hA0
  have hlt : ∀ x ∈ p, x.block < W.heap.size := fun x hx => by simpa using hW'.lt x (List.mem_append_left _ hx)
  rw [Try.params4] at hA hval
  obtain ⟨v0, vs0, d0, ds0, p0, q0, hargs, rfl, rfl, h0, r0⟩ := trodAll_cons hA
  obtain ⟨v1, vs1, d1, ds1, p1, q1, rfl, rfl, rfl, h1, r1⟩ := trodAll_cons r0
  obtain ⟨rfl, rfl, rfl⟩ := trodAll_nil r1
  obtain rfl : args = #[v0, v1] := by cases args; simp_all
  obtain ⟨rfl, rfl⟩ := trodVars_none hV
  refine (walk (hval 0 22 v0 rfl rfl) h0 (hval 1 22 v1 rfl rfl) h1 ).mono fun e W1 ⟨he, hb⟩ => ?_
  subst he
  exact ⟨_, rfl, law_post laidOut hW' rfl (by kernel_rfl) (by rfl) Try.underlying4 rfl hb⟩

set_option maxRecDepth 100000 in
theorem lifted (os : Os) (started : os.Started) (H : Type) (enc : TypeId × Value → H) :
    ReturnsInHanded {} Try.checked os 4 .any (Rows.freemapKeptSpec.pre6 enc Try.prog Try.f4 Rows.freemapKeptRow.domain false) (Rows.freemapKeptSpec.post enc Try.prog Try.f4 false true false false) := by
  refine returnsInHanded_of_change (C := Try.checked) own started (by kernel_rfl) Try.func4
    (ChangeSpec.witness6 (enc := enc) (C := Try.checked) false ⟨#[], #[.slice none 0 0, .slice none 0 0], []⟩ 8 (by kernel_rfl) (by kernel_rfl) (by kernel_rfl) (by kernel_rfl)) ?_
  intro W base args ds gs before hval0 hW hcnd _
  exact contract H enc W base args ds gs before hval0 hW

theorem proved : Rows.FreemapKeptSaid :=
  OpenClaim.holds_of_wide 4 Try.f4 rfl rfl rfl rfl rfl rfl rfl ⟨rfl, rfl, rfl, rfl, rfl⟩ rfl rfl rfl rfl rfl (by kernel_rfl) Try.func4 (by kernel_rfl)
    (of_decide_eq_true (by kernel_rfl)) (by unfold Func.isWrapper; first | (rw [if_pos (by decide +kernel)]; kernel_rfl) | (rw [if_neg (by decide +kernel)]; exact ⟨rfl, rfl⟩))
    (fun os started H enc _ => lifted os started H enc)
#print axioms proved
end Go.Proofs.Ytiiknbnaplpidab.freemapKept
