/-
  CrcCuts: for every input the law returns true, and each argument reads behind the call as before. No condition of its own.
-/
import Derived.Test.YtiiknbnaplpidaaCrcLaw
namespace Go.Proofs.Ytiiknbnaplpidaa.crcCuts
open Go.ChangeShapes Go.WideShapes Go.ChangeAt Go.RowKit
open Go.ChangeMaps (open_string shut_string)
set_option linter.unusedVariables false

theorem tail_take (t : ByteArray) : List.take (t.size - 4) (List.drop 4 t.data.toList) = t.data.toList.drop 4 := List.take_of_length_le (by simp)
theorem lays_yes (t : ByteArray) (hc : Crc.fourL (Crc.sumF (t.data.toList.drop 4)) = t.data.toList.take 4) :
    (!Crc.layF (List.take (t.size - 4) (List.drop 4 t.data.toList)) == t.toList) = false := by
  rw [tail_take, bytes_toList, Crc.layF, hc, List.take_append_drop]; simp
theorem lays_no (t : ByteArray) (hc : Crc.fourL (Crc.sumF (t.data.toList.drop 4)) ≠ t.data.toList.take 4) :
    (!Crc.layF (List.take (t.size - 4) (List.drop 4 t.data.toList)) == t.toList) = true := by
  rw [tail_take, bytes_toList]
  simp only [Bool.not_eq_true', beq_eq_false_iff_ne, ne_eq]
  intro e
  apply hc
  have := congrArg (List.take 4) e
  rwa [Crc.take_lay] at this
set_option maxHeartbeats 400000 in
theorem walk (s : ByteArray) (hs : s.size ≤ maxLen) (w : World) :
    Calls Try.prog 5 #[.string s] w fun e w' => e = .returned (.bool true) ∧ Below w.heap.size w w' := by
  go_enter Try.func5, Try.ntmps5
  go_wp2_with fail
  refine (Crc.few_any s _ hs).mono ?_
  rintro e w1 ⟨t, ht, rfl, rfl⟩
  by_cases h4 : t.size < 4
  · go_wp2_with fail
    refine (Crc.cut_short t _ h4).mono ?_
    rintro e w2 ⟨rfl, hb2⟩
    go_wp2_with fail
    refine (Crc.awake_any _).mono ?_
    rintro e w3 ⟨rfl, hb3⟩
    go_wp2_with fail
    go_ret
    exact ⟨rfl, bstep hb2 hb3⟩
  · have HC := Lib.hid (Classical.em (Crc.fourL (Crc.sumF (t.data.toList.drop 4)) = t.data.toList.take 4))
    rcases HC.out with hc | hc
    · have hb := lays_yes t hc
      have HC := Lib.hid hc
      clear hc
      go_wp2_with fail
      refine (Crc.cut_ok t _ (by omega) (by unfold maxLen; omega) HC.out).mono ?_
      rintro e w2 ⟨rfl, hb2⟩
      go_wp2_with fail
      refine (Crc.rlay_any _ _ ?_).mono ?_
      · simp; omega
      rintro e w3 ⟨rfl, hb3⟩
      go_wp2_with fail
      refine (Crc.awake_any _).mono ?_
      rintro e w4 ⟨rfl, hb4⟩
      go_wp2_with fail
      go_ret
      exact ⟨rfl, bstep (bstep hb2 hb3) hb4⟩
    · have hb := lays_no t hc
      have HC := Lib.hid hc
      clear hc
      go_wp2_with fail
      refine (Crc.cut_corrupt t _ (by omega) (by unfold maxLen; omega) HC.out).mono ?_
      rintro e w2 ⟨rfl, hb2⟩
      go_wp2_with fail
      refine (Crc.rlay_any _ _ ?_).mono ?_
      · simp; omega
      rintro e w3 ⟨rfl, hb3⟩
      go_wp2_with fail
      refine (Crc.awake_any _).mono ?_
      rintro e w4 ⟨rfl, hb4⟩
      go_wp2_with fail
      go_ret
      exact ⟨rfl, bstep (bstep hb2 hb3) hb4⟩

set_option maxRecDepth 100000 in
theorem contract (H : Type) (enc : TypeId × Value → H) (W : World) (base : Nat) (args : Array Value) (ds gs : List (DataW H)) (before : List MemPlace)
    (hval0 : ∀ (j : Nat) t v, Try.f5.params[j]? = some t → args[j]? = some v → Value.okWide Try.prog W .any base t v)
    (hW : DataW.Whole enc Try.prog Try.f5.params.toList Rows.crcCutsSpec.vars false W args.toList ds gs before) :
    Calls Try.prog 5 args W fun e W' => ∃ v, e = .returned v ∧ Rows.crcCutsSpec.post enc Try.prog Try.f5 false true false false W args v W' := by
  have hval := hval0
  have hW' := hW
  obtain ⟨p, q, hA0, hV, rfl, hfz, hnd⟩ := hW
  have hA : DataW.TrodAll enc Try.prog W 0 (fun _ => true) true Try.f5.params.toList args.toList ds p := hA0
  have hlt : ∀ x ∈ p, x.block < W.heap.size := fun x hx => by simpa using hW'.lt x (List.mem_append_left _ hx)
  rw [Try.params5] at hA hval
  obtain ⟨v0, vs0, d0, ds0, p0, q0, hargs, rfl, rfl, h0, r0⟩ := trodAll_cons hA
  obtain ⟨rfl, rfl, rfl⟩ := trodAll_nil r0
  obtain rfl : args = #[v0] := by cases args; simp_all
  obtain ⟨rfl, rfl⟩ := trodVars_none hV
  obtain ⟨s0, rfl, rfl, rfl, hs0⟩ := open_string Try.underlying9 (hval 0 9 v0 rfl rfl) h0
  refine (walk s0 hs0 W).mono fun e W1 ⟨he, hb⟩ => ?_
  subst he
  exact ⟨_, rfl, law_post laidOut hW' rfl (by kernel_rfl) (by rfl) Try.underlying4 rfl hb⟩

set_option maxRecDepth 100000 in
theorem lifted (os : Os) (started : os.Started) (H : Type) (enc : TypeId × Value → H) :
    ReturnsInHanded {} Try.checked os 5 .any (Rows.crcCutsSpec.pre6 enc Try.prog Try.f5 Rows.crcCutsRow.domain false) (Rows.crcCutsSpec.post enc Try.prog Try.f5 false true false false) := by
  refine returnsInHanded_of_change (C := Try.checked) own started (by kernel_rfl) Try.func5
    (ChangeSpec.witness6 (enc := enc) (C := Try.checked) false ⟨#[], #[.string .empty], []⟩ 8 (by kernel_rfl) (by kernel_rfl) (by kernel_rfl) (by kernel_rfl)) ?_
  intro W base args ds gs before hval0 hW hcnd _
  exact contract H enc W base args ds gs before hval0 hW

theorem proved : Rows.CrcCutsSaid :=
  OpenClaim.holds_of_wide 5 Try.f5 rfl rfl rfl rfl rfl rfl rfl ⟨rfl, rfl, rfl, rfl, rfl⟩ rfl rfl rfl rfl rfl (by kernel_rfl) Try.func5 (by kernel_rfl)
    (of_decide_eq_true (by kernel_rfl)) (by unfold Func.isWrapper; first | (rw [if_pos (by decide +kernel)]; kernel_rfl) | (rw [if_neg (by decide +kernel)]; exact ⟨rfl, rfl⟩))
    (fun os started H enc _ => lifted os started H enc)
#print axioms proved
end Go.Proofs.Ytiiknbnaplpidaa.crcCuts
