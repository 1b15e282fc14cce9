/-
 TreeMaps: for every input the law returns true, and each argument reads behind the call as before. No condition of its own.
-/
import Derived.Test.YtmonobkginiajaaGreatB13
set_option linter.all false
set_option linter.unusedVariables false
set_option linter.unusedSimpArgs false
namespace Go.Proofs.YtmonobkginiajaaGreat.treeMaps
open Go.ChangeShapes Go.WideShapes Go.ChangeAt Go.RowKit
open Go.ChangeMaps (open_string shut_string)
set_option linter.unusedVariables false

open Sh Pk Dk Pg
set_option maxRecDepth 100000 in
theorem walk {H : Type} {enc : TypeId × Value → H} {w : World} (a : Int) (wf : (Lit.int .u8 a).wf = true) (b : Int) (wf2 : (Lit.int .u8 b).wf = true) {base : Nat} {v : Value} {d : DataW H} {ps : List MemPlace} (fu : Value.okWide Tryz.prog w .any base 22 v) (h : DataW.Trod enc Tryz.prog w 0 (fun _ => true) true 22 v d ps) :
  Calls Tryz.prog 3 #[.int .u8 a, .int .u8 b, v] w fun e w' => e = .returned (.bool true) ∧ Below w.heap.size w w' := by
 obtain ⟨A, m, c, F, rfl, hm, hP⟩ := Jm fu h
 have hb := Go.bounds_u8 wf
 have cA := Go.bounds_u8 wf2
 obtain ⟨N, rfl⟩ := Int.eq_ofNat_of_zero_le hb.1
 obtain ⟨N2, rfl⟩ := Int.eq_ofNat_of_zero_le cA.1
 exact Gc N N2 (by omega) (by omega) A m c F hm hP

set_option maxRecDepth 100000 in
theorem contract (H : Type) (enc : TypeId × Value → H) (W : World) (base : Nat) (args : Array Value) (ds gs : List (DataW H)) (before : List MemPlace)
  (Bq : ∀ (j : Nat) t v, Tryz.f3.params[j]? = some t → args[j]? = some v → Value.okWide Tryz.prog W .any base t v)
  (hW : DataW.Whole enc Tryz.prog Tryz.f3.params.toList Rows.treeMapsSpec.vars false W args.toList ds gs before) :
  Calls Tryz.prog 3 args W fun e W' => ∃ v, e = .returned v ∧ Rows.treeMapsSpec.post enc Tryz.prog Tryz.f3 false true false false W args v W' := by
 have n8 := Bq
 have hW' := hW
 obtain ⟨p, q, hA0, hV, rfl, Rv, xX⟩ := hW
 have hA : DataW.TrodAll enc Tryz.prog W 0 (fun _ => true) true Tryz.f3.params.toList args.toList ds p := hA0
 have dH : ∀ x ∈ p, x.block < W.heap.size := fun x hx => by simpa using hW'.lt x (List.mem_append_left _ hx)
 rw [Tryz.params3] at hA n8
 obtain ⟨v0, vs0, d0, ds0, p0, q0, hargs, rfl, rfl, h0, r0⟩ := trodAll_cons hA
 obtain ⟨v1, vs1, d1, ds1, p1, q1, rfl, rfl, rfl, h1, r1⟩ := trodAll_cons r0
 obtain ⟨v2, vs2, d2, ds2, p2, q2, rfl, rfl, rfl, h2, r2⟩ := trodAll_cons r1
 obtain ⟨rfl, rfl, rfl⟩ := trodAll_nil r2
 obtain rfl : args = #[v0, v1, v2] := by cases args; simp_all
 obtain ⟨rfl, rfl⟩ := trodVars_none hV
 obtain ⟨a0, rfl, rfl, rfl, w0⟩ := open_int Tryz.underlying5 (n8 0 5 v0 rfl rfl) h0
 obtain ⟨a1, rfl, rfl, rfl, w1⟩ := open_int Tryz.underlying5 (n8 1 5 v1 rfl rfl) h1
 refine (walk a0 w0 a1 w1 (n8 2 22 v2 rfl rfl) h2 ).mono fun e W1 ⟨he, hb⟩ => ?_
 subst he
 exact ⟨_, rfl, Gp laidOut hW' rfl (by kernel_rfl) (by rfl) Tryz.underlying4 rfl hb⟩

set_option maxRecDepth 100000 in
theorem lifted (os : Os) (started : os.Started) (H : Type) (enc : TypeId × Value → H) :
  ReturnsInHanded {} Tryz.checked os 3 .any (Rows.treeMapsSpec.pre6 enc Tryz.prog Tryz.f3 Rows.treeMapsRow.domain false) (Rows.treeMapsSpec.post enc Tryz.prog Tryz.f3 false true false false) := by
 refine returnsInHanded_of_change (C := Tryz.checked) own started (by kernel_rfl) Tryz.func3
  (ChangeSpec.witness6 (enc := enc) (C := Tryz.checked) false ⟨#[], #[.int .u8 0, .int .u8 0, .slice none 0 0], []⟩ 8 (by kernel_rfl) (by kernel_rfl) (by kernel_rfl) (by kernel_rfl)) ?_
 intro W base args ds gs before Bq hW hcnd _
 exact contract H enc W base args ds gs before Bq hW

theorem proved : Rows.TreeMapsSaid :=
 OpenClaim.holds_of_wide 3 Tryz.f3 rfl rfl rfl rfl rfl rfl rfl ⟨rfl, rfl, rfl, rfl, rfl⟩ rfl rfl rfl rfl rfl (by kernel_rfl) Tryz.func3 (by kernel_rfl)
  (of_decide_eq_true (by kernel_rfl)) (by unfold Func.isWrapper; first | (rw [if_pos (by decide +kernel)]; kernel_rfl) | (rw [if_neg (by decide +kernel)]; exact ⟨rfl, rfl⟩))
  (fun os started H enc _ => lifted os started H enc)
#print axioms proved
end Go.Proofs.YtmonobkginiajaaGreat.treeMaps
