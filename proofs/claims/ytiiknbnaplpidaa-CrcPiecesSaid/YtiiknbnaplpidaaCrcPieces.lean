/-
  CrcPieces: for every input the law returns true, and each argument reads behind the call as before. No condition of its own.
-/
import Derived.Test.YtiiknbnaplpidaaCrcLaw
namespace Go.Proofs.Ytiiknbnaplpidaa.crcPieces
open Go.ChangeShapes Go.WideShapes Go.ChangeAt Go.RowKit
open Go.ChangeMaps (open_string shut_string)
set_option linter.unusedVariables false

open Crc
set_option maxRecDepth 100000 in
set_option maxHeartbeats 1000000 in
theorem walk {H : Type} {enc : TypeId × Value → H} {w : World} {base : Nat} {v : Value} {d : DataW H} {ps : List MemPlace} (hok : Value.okWide Try.prog w .any base 27 v) (h : DataW.Trod enc Try.prog w 0 (fun _ => true) true 27 v d ps) :
    Calls Try.prog 4 #[v] w fun e w' => e = .returned (.bool true) ∧ Below w.heap.size w w' := by
  obtain ⟨A, n, c, ss, rfl, hn, hss⟩ := strs_view Try.underlying27 Try.underlying9 (by kernel_rfl) hok h
  clear hok h
  unfold maxLen at hn
  have HSS := Lib.hid hss
  clear hss
  go_enter Try.func4, Try.ntmps4
  go_wp2_with fail
  refine (sum_any ⟨#[]⟩ _ (by decide)).mono ?_
  rintro e w1 ⟨rfl, hb1⟩
  go_wp2_with fail
  go_loopw [3, 4, 5, 6] (fun sum al i _ wr => ∃ (k : Nat) (l : List UInt8), k ≤ 15 ∧ k ≤ n ∧ l.length ≤ 4000 ∧ i = .int .i64 k ∧ al = .string ⟨l.toArray⟩ ∧ sum = .int .u32 (sumF l : Nat) ∧ Below w.heap.size w wr) (fun _ _ i _ _ => 15 - (intOf i).toNat)
  case atStart => exact ⟨0, [], by omega, by omega, by simp, rfl, rfl, rfl, hb1⟩
  case round =>
    obtain ⟨k, l, hk, hkn, hl, rfl, rfl, rfl, hb⟩ := hrel
    have hlt := sumF_lt l
    by_cases hgo : k < n ∧ k < 15 ∧ l.length < 2000
    · obtain ⟨h1, h2, h3⟩ := hgo
      obtain ⟨ad, rfl, hc, hm⟩ := HSS.out k h1
      have hc1 : wr.cell? (ad.add k) = some (.string (ss k)) := (hb.cell (by rw [block_of_add]; exact cell_lt hc)).trans hc
      clear hc
      generalize ss k = t at hc1 hm
      go_wp2_with fail
      refine (few_any t _ hm).mono ?_
      rintro e w2 ⟨t2, ht2, rfl, rfl⟩
      go_wp2_with fail
      refine (more_sum l t2 _ (by unfold maxLen; omega)).mono ?_
      rintro e w3 ⟨rfl, hb3⟩
      go_wp2_with fail
      go_roundw
      case rel => exact ⟨k + 1, l ++ t2.data.toList, by omega, by omega, by simp; omega, by go_num, by rw [string_append_list], rfl, hb.trans (hb3.mono hb.size)⟩
      case measure => simp [intOf]; omega
    · have hx : ¬ k < n ∨ (k < n ∧ ¬ k < 15) ∨ (k < n ∧ k < 15 ∧ ¬ l.length < 2000) := by omega
      clear hgo
      rcases hx with h1 | ⟨h0, h1⟩ | ⟨h0, h1, h2⟩
      all_goals
        go_wp2_with fail
        refine (awake_any _).mono ?_
        rintro e w2 ⟨rfl, hb2⟩
        go_wp2_with fail
        refine (rsum_any ⟨l.toArray⟩ _ (by show l.length ≤ _; omega)).mono ?_
        rintro e w3 ⟨rfl, rfl⟩
        go_wp2_with fail
        go_ret
        exact ⟨rfl, hb.trans (hb2.mono hb.size)⟩

set_option maxRecDepth 100000 in
theorem contract (H : Type) (enc : TypeId × Value → H) (W : World) (base : Nat) (args : Array Value) (ds gs : List (DataW H)) (before : List MemPlace)
    (hval0 : ∀ (j : Nat) t v, Try.f4.params[j]? = some t → args[j]? = some v → Value.okWide Try.prog W .any base t v)
    (hW : DataW.Whole enc Try.prog Try.f4.params.toList Rows.crcPiecesSpec.vars false W args.toList ds gs before) :
    Calls Try.prog 4 args W fun e W' => ∃ v, e = .returned v ∧ Rows.crcPiecesSpec.post enc Try.prog Try.f4 false true false false W args v W' := by
  have hval := hval0
  have hW' := hW
  obtain ⟨p, q, hA0, hV, rfl, hfz, hnd⟩ := hW
  have hA : DataW.TrodAll enc Try.prog W 0 (fun _ => true) true Try.f4.params.toList args.toList ds p := hA0
  have hlt : ∀ x ∈ p, x.block < W.heap.size := fun x hx => by simpa using hW'.lt x (List.mem_append_left _ hx)
  rw [Try.params4] at hA hval
  obtain ⟨v0, vs0, d0, ds0, p0, q0, hargs, rfl, rfl, h0, r0⟩ := trodAll_cons hA
  obtain ⟨rfl, rfl, rfl⟩ := trodAll_nil r0
  obtain rfl : args = #[v0] := by cases args; simp_all
  obtain ⟨rfl, rfl⟩ := trodVars_none hV
  refine (walk (hval 0 27 v0 rfl rfl) h0 ).mono fun e W1 ⟨he, hb⟩ => ?_
  subst he
  exact ⟨_, rfl, law_post laidOut hW' rfl (by kernel_rfl) (by rfl) Try.underlying4 rfl hb⟩

set_option maxRecDepth 100000 in
theorem lifted (os : Os) (started : os.Started) (H : Type) (enc : TypeId × Value → H) :
    ReturnsInHanded {} Try.checked os 4 .any (Rows.crcPiecesSpec.pre6 enc Try.prog Try.f4 Rows.crcPiecesRow.domain false) (Rows.crcPiecesSpec.post enc Try.prog Try.f4 false true false false) := by
  refine returnsInHanded_of_change (C := Try.checked) own started (by kernel_rfl) Try.func4
    (ChangeSpec.witness6 (enc := enc) (C := Try.checked) false ⟨#[], #[.slice none 0 0], []⟩ 8 (by kernel_rfl) (by kernel_rfl) (by kernel_rfl) (by kernel_rfl)) ?_
  intro W base args ds gs before hval0 hW hcnd _
  exact contract H enc W base args ds gs before hval0 hW

theorem proved : Rows.CrcPiecesSaid :=
  OpenClaim.holds_of_wide 4 Try.f4 rfl rfl rfl rfl rfl rfl rfl ⟨rfl, rfl, rfl, rfl, rfl⟩ rfl rfl rfl rfl rfl (by kernel_rfl) Try.func4 (by kernel_rfl)
    (of_decide_eq_true (by kernel_rfl)) (by unfold Func.isWrapper; first | (rw [if_pos (by decide +kernel)]; kernel_rfl) | (rw [if_neg (by decide +kernel)]; exact ⟨rfl, rfl⟩))
    (fun os started H enc _ => lifted os started H enc)
#print axioms proved
end Go.Proofs.Ytiiknbnaplpidaa.crcPieces
