/-
 StoreApart: for every input the law returns true, and each argument reads behind the call as before. No condition of its own.
-/
import Derived.Test.YtmonobkginiajaaGreatAp16
set_option linter.all false
set_option linter.unusedVariables false
set_option linter.unusedSimpArgs false
namespace Go.Proofs.YtmonobkginiajaaGreat.storeApart
open Go.ChangeShapes Go.WideShapes Go.ChangeAt Go.RowKit
open Go.ChangeMaps (open_string shut_string)
set_option linter.unusedVariables false

open Sh Pk Dk Pg
set_option maxRecDepth 100000 in
theorem walk {H : Type} {enc : TypeId × Value → H} {w : World} {base : Nat} {v : Value} {d : DataW H} {ps : List MemPlace} (fy : Value.okWide Tryz.prog w .any base 84 v) (h : DataW.Trod enc Tryz.prog w 0 (fun _ => true) true 84 v d ps) :
  Calls Tryz.prog 9 #[v] w fun e w' => e = .returned (.bool true) ∧ Below w.heap.size w w' := by
 obtain ⟨A, m, cc, F, y, sp, lp, rfl, hm, hA, hy, h1, h2⟩ := PN fy h
 exact Aw A m cc F hm hA y.kd y.sp y.lp y.n y.key y.til y.val hy.1.2.2.2 sp lp h1 h2

set_option maxRecDepth 100000 in
theorem contract (H : Type) (enc : TypeId × Value → H) (W : World) (base : Nat) (args : Array Value) (ds gs : List (DataW H)) (before : List MemPlace)
  (UO : ∀ (j : Nat) t v, Tryz.f9.params[j]? = some t → args[j]? = some v → Value.okWide Tryz.prog W .any base t v)
  (hW : DataW.Whole enc Tryz.prog Tryz.f9.params.toList Rows.storeApartSpec.vars false W args.toList ds gs before) :
  Calls Tryz.prog 9 args W fun e W' => ∃ v, e = .returned v ∧ Rows.storeApartSpec.post enc Tryz.prog Tryz.f9 false true false false W args v W' := by
 have ud := UO
 have hW' := hW
 obtain ⟨p, q, hA0, hV, rfl, Qo, AF⟩ := hW
 have hA : DataW.TrodAll enc Tryz.prog W 0 (fun _ => true) true Tryz.f9.params.toList args.toList ds p := hA0
 have dV : ∀ x ∈ p, x.block < W.heap.size := fun x hx => by simpa using hW'.lt x (List.mem_append_left _ hx)
 rw [Tryz.params9] at hA ud
 obtain ⟨v0, vs0, d0, ds0, p0, q0, hargs, rfl, rfl, h0, r0⟩ := trodAll_cons hA
 obtain ⟨rfl, rfl, rfl⟩ := trodAll_nil r0
 obtain rfl : args = #[v0] := by cases args; simp_all
 obtain ⟨rfl, rfl⟩ := trodVars_none hV
 refine (walk (ud 0 84 v0 rfl rfl) h0 ).mono fun e W1 ⟨he, hb⟩ => ?_
 subst he
 exact ⟨_, rfl, Qn laidOut hW' rfl (by kernel_rfl) (by rfl) Tryz.underlying4 rfl hb⟩

set_option maxRecDepth 100000 in
theorem lifted (os : Os) (started : os.Started) (H : Type) (enc : TypeId × Value → H) :
  ReturnsInHanded {} Tryz.checked os 9 .any (Rows.storeApartSpec.pre6 enc Tryz.prog Tryz.f9 Rows.storeApartRow.domain false) (Rows.storeApartSpec.post enc Tryz.prog Tryz.f9 false true false false) := by
 refine returnsInHanded_of_change (C := Tryz.checked) own started (by kernel_rfl) Tryz.func9
  (ChangeSpec.witness6 (enc := enc) (C := Tryz.checked) false ⟨#[], #[.agg #[.slice none 0 0, .int .i64 0, .int .i64 0, .int .i64 0, .int .i64 0, .string .empty, .string .empty, .string .empty, .int .u8 0, .int .u8 0]], []⟩ 8 (by kernel_rfl) (by kernel_rfl) (by kernel_rfl) (by kernel_rfl)) ?_
 intro W base args ds gs before UO hW hcnd _
 exact contract H enc W base args ds gs before UO hW

theorem proved : Rows.StoreApartSaid :=
 OpenClaim.holds_of_wide 9 Tryz.f9 rfl rfl rfl rfl rfl rfl rfl ⟨rfl, rfl, rfl, rfl, rfl⟩ rfl rfl rfl rfl rfl (by kernel_rfl) Tryz.func9 (by kernel_rfl)
  (of_decide_eq_true (by kernel_rfl)) (by unfold Func.isWrapper; first | (rw [if_pos (by decide +kernel)]; kernel_rfl) | (rw [if_neg (by decide +kernel)]; exact ⟨rfl, rfl⟩))
  (fun os started H enc _ => lifted os started H enc)
#print axioms proved
end Go.Proofs.YtmonobkginiajaaGreat.storeApart
