/-
  SlotsList: for every input the law returns true, and each argument reads behind the call as before. No condition of its own.
-/
import Derived.Test.YticehnnbjbliaaaSlDo2
namespace Go.Proofs.Yticehnnbjbliaaa.slotsList
open Go.ChangeShapes Go.WideShapes Go.ChangeAt Go.RowKit
open Go.ChangeMaps (open_string shut_string)
set_option linter.unusedVariables false

open Sl
set_option maxRecDepth 100000 in
set_option maxHeartbeats 4000000 in
theorem walk_in {w : World} (A : Option Addr) (m c : Nat) (F : Nat → Ac) (hm : m ≤ 9223372036854775807) (hacts : Acts w A m F) :
    Calls Try.prog 4 #[.slice A m c] w fun e w' => e = .returned (.bool true) ∧ Below w.heap.size w w' := by
  have HA := Lib.hid hacts
  obtain ⟨s0, r0, -, -⟩ := empty_sound
  obtain ⟨T0, h0⟩ := ba_of emptyF
  have KE := Lib.hid (empty_any w)
  rw [← h0, ba_eq] at KE
  rw [← h0] at s0 r0
  have KN := Lib.hid (fun (w' : World) => samep_any (w := w') T0 s0 r0 rfl (Slc.nil w' 9 1 : Slc w' 9 1 (.slice none 0 0) 0 (strs [])))
  have HS := Lib.hid (show Sound T0.data.toList ∧ recs T0.data.toList = [] from ⟨s0, r0⟩)
  clear hacts s0 r0 h0
  go_enter Try.func4, Try.ntmps4
  go_wp2_with fail
  refine KE.out.mono ?_
  rintro e w1 ⟨rfl, hb1⟩
  have E1 := slc_empty w1
  have O1 := Lib.hid (bstep hb1 ((Below.refl w1.heap.size w1).alloc (Nat.le_refl _) (.cells #[] 9)))
  have HP := Lib.hid (show Pair (w1.alloc (.cells #[] 9)) w.heap.size T0 (.slice (some ⟨w1.heap.size, 0, none⟩) 0 0) [] from ⟨HS.out.1, HS.out.2, E1, by have := hb1.size; simpa [ownB] using this⟩)
  clear E1 hb1
  go_wp2_with fail
  generalize w1.alloc (.cells #[] 9) = W1 at *
  refine (awake_any _).mono ?_
  rintro e w2 ⟨rfl, hb2⟩
  have P2 := Lib.hid (HP.out.below hb2)
  have O2 := Lib.hid (bstep O1.out hb2)
  clear hb2
  go_wp2_with fail
  refine (KN.out _).mono ?_
  rintro e w3 ⟨rfl, hb3⟩
  have P3 := Lib.hid (P2.out.below hb3)
  have O3 := Lib.hid (bstep O2.out hb3)
  clear hb3
  go_wp2_with fail
  go_loopw [3, 4, 5, 6] (fun bv mv iv _ wr => ∃ (k : Nat) (b : ByteArray) (l : List (List UInt8)), k ≤ 60 ∧ bv = .string b ∧ iv = .int .i64 k ∧ Pair wr w.heap.size b mv l ∧ Below w.heap.size w wr) (fun _ _ iv _ _ => 60 - (intOf iv).toNat)
  case atStart => exact ⟨0, T0, [], by omega, rfl, rfl, P3.out, O3.out⟩
  case round =>
    obtain ⟨k, b, l, hk, rfl, rfl, P, O⟩ := hrel
    obtain ⟨VA, vc, rfl⟩ := slc_val P.S
    have PP := Lib.hid P
    have OO := Lib.hid O
    clear P O
    by_cases h : k < m ∧ k < 60
    · obtain ⟨h1, h2⟩ := h
      obtain ⟨ad, rfl, AT⟩ := (HA.out.below OO.out) k h1
      have c0 := AT.c0
      have c1 := AT.c1
      have c2 := AT.c2
      have hsz := AT.hr
      clear AT
      generalize F k = a at *
      obtain ⟨kind, ix, r⟩ := a
      simp only at c0 c1 c2 hsz
      by_cases hs : r.size ≤ 400
      · have KD := Lib.hid (do_any PP.out OO.out.size kind ix r (by omega))
        unfold actV at KD
        have hs2 : (r.size : Int) ≤ 400 := by omega
        go_wp2_with fail
        refine KD.out.mono ?_
        rintro e w4 ⟨b4, v4, l4, rfl, P4, hb4⟩
        obtain ⟨V4, c4, rfl⟩ := slc_val P4.S
        have O4 := Lib.hid (bstep OO.out hb4)
        have KS := Lib.hid (samep_any b4 P4.s P4.r rfl P4.S)
        have P4 := Lib.hid P4
        clear hb4
        go_wp2_with fail
        refine KS.out.mono ?_
        rintro e w5 ⟨rfl, hb5⟩
        have P5 := Lib.hid (P4.out.below hb5)
        have O5 := Lib.hid (bstep O4.out hb5)
        clear hb5
        go_wp2_with fail
        go_roundw
        case rel => exact ⟨k + 1, b4, l4, by omega, rfl, by go_num, P5.out, O5.out⟩
        case measure => simp [intOf]; omega
      · have hs2 : (400 : Int) < (r.size : Int) := by omega
        go_wp2_with fail
        go_roundw
        case rel => exact ⟨k + 1, b, l, by omega, rfl, by go_num, PP.out, OO.out⟩
        case measure => simp [intOf]; omega
    · have hx : ¬ k < m ∨ (k < m ∧ ¬ k < 60) := by omega
      clear h
      rcases hx with h1 | ⟨h1, h2⟩
      all_goals
        go_wp2_with fail
        go_ret
        exact ⟨rfl, OO.out⟩
theorem walk {H : Type} {enc : TypeId × Value → H} {w : World} {base : Nat} {v : Value} {d : DataW H} {ps : List MemPlace} (hok : Value.okWide Try.prog w .any base 29 v) (h : DataW.Trod enc Try.prog w 0 (fun _ => true) true 29 v d ps) :
    Calls Try.prog 4 #[v] w fun e w' => e = .returned (.bool true) ∧ Below w.heap.size w w' := by
  obtain ⟨A, m, c, F, rfl, hm, ha⟩ := acts_of hok h
  exact walk_in A m c F hm ha

set_option maxRecDepth 100000 in
theorem contract (H : Type) (enc : TypeId × Value → H) (W : World) (base : Nat) (args : Array Value) (ds gs : List (DataW H)) (before : List MemPlace)
    (hval0 : ∀ (j : Nat) t v, Try.f4.params[j]? = some t → args[j]? = some v → Value.okWide Try.prog W .any base t v)
    (hW : DataW.Whole enc Try.prog Try.f4.params.toList Rows.slotsListSpec.vars false W args.toList ds gs before) :
    Calls Try.prog 4 args W fun e W' => ∃ v, e = .returned v ∧ Rows.slotsListSpec.post enc Try.prog Try.f4 false true false false W args v W' := by
  have hval := hval0
  have hW' := hW
  obtain ⟨p, q, hA0, hV, rfl, hfz, hnd⟩ := hW
  have hA : DataW.TrodAll enc Try.prog W 0 (fun _ => true) true Try.f4.params.toList args.toList ds p := hA0
  have hlt : ∀ x ∈ p, x.block < W.heap.size := fun x hx => by simpa using hW'.lt x (List.mem_append_left _ hx)
  rw [Try.params4] at hA hval
  obtain ⟨v0, vs0, d0, ds0, p0, q0, hargs, rfl, rfl, h0, r0⟩ := trodAll_cons hA
  obtain ⟨rfl, rfl, rfl⟩ := trodAll_nil r0
  obtain rfl : args = #[v0] := by cases args; simp_all
  obtain ⟨rfl, rfl⟩ := trodVars_none hV
  refine (walk (hval 0 29 v0 rfl rfl) h0 ).mono fun e W1 ⟨he, hb⟩ => ?_
  subst he
  exact ⟨_, rfl, law_post laidOut hW' rfl (by kernel_rfl) (by rfl) Try.underlying4 rfl hb⟩

set_option maxRecDepth 100000 in
theorem lifted (os : Os) (started : os.Started) (H : Type) (enc : TypeId × Value → H) :
    ReturnsInHanded {} Try.checked os 4 .any (Rows.slotsListSpec.pre6 enc Try.prog Try.f4 Rows.slotsListRow.domain false) (Rows.slotsListSpec.post enc Try.prog Try.f4 false true false false) := by
  refine returnsInHanded_of_change (C := Try.checked) own started (by kernel_rfl) Try.func4
    (ChangeSpec.witness6 (enc := enc) (C := Try.checked) false ⟨#[], #[.slice none 0 0], []⟩ 8 (by kernel_rfl) (by kernel_rfl) (by kernel_rfl) (by kernel_rfl)) ?_
  intro W base args ds gs before hval0 hW hcnd _
  exact contract H enc W base args ds gs before hval0 hW

theorem proved : Rows.SlotsListSaid :=
  OpenClaim.holds_of_wide 4 Try.f4 rfl rfl rfl rfl rfl rfl rfl ⟨rfl, rfl, rfl, rfl, rfl⟩ rfl rfl rfl rfl rfl (by kernel_rfl) Try.func4 (by kernel_rfl)
    (of_decide_eq_true (by kernel_rfl)) (by unfold Func.isWrapper; first | (rw [if_pos (by decide +kernel)]; kernel_rfl) | (rw [if_neg (by decide +kernel)]; exact ⟨rfl, rfl⟩))
    (fun os started H enc _ => lifted os started H enc)
#print axioms proved
end Go.Proofs.Yticehnnbjbliaaa.slotsList
