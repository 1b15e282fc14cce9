/-
  DiskDoes: for every input the law returns true, and each argument reads behind the call as before. No condition of its own.
-/
import Derived.Test.YtclompapmbhijaaDiskLaw
namespace Go.Proofs.Ytclompapmbhijaa.diskDoes
open Go.ChangeShapes Go.WideShapes Go.ChangeAt Go.RowKit
open Go.ChangeMaps (open_string shut_string)
set_option linter.unusedVariables false

open Dk
set_option maxRecDepth 100000 in
set_option maxHeartbeats 4000000 in
theorem walk_in {w : World} (n : Nat) (hn1 : 1 ≤ n) (hn : n ≤ 4096) (A : Option Addr) (m c : Nat) (F : Nat → Ac) (hm : m ≤ 9223372036854775807) (hacts : Acts w A m F) (o : Int) :
    Calls Try.prog 6 #[.int .i64 n, .slice A m c, .int .i64 o] w fun e w' => e = .returned (.bool true) ∧ Below w.heap.size w w' := by
  have KM := Lib.hid (made_yes n A m c F hacts hm hn1 hn)
  clear hacts
  unfold dp xp at KM
  go_enter Try.func6, Try.ntmps6
  go_wp2_with fail
  refine KM.out.mono ?_
  rintro e w1 ⟨L, M, d, x, rfl, hM⟩
  go_wp2_with fail
  refine (awake_any _).mono ?_
  rintro e w2 ⟨rfl, hb2⟩
  have hB := hM.both.below hb2
  have O2 := Lib.hid (bstep hM.below hb2)
  have HB := Lib.hid hB
  have KR := Lib.hid (fun i => read_any hB.dv i)
  have KX := Lib.hid (fun i => xread_any hB.rf i)
  have RR := Lib.hid (fun i => hB.r.read i)
  have KD := Lib.hid (fun k => down_any (hB.drewN k).dv)
  have KS := Lib.hid (fun k => sectors_any (hB.drewN k).dv)
  have KL := Lib.hid (fun k => loose_any (hB.drewN k).dv)
  have KY := Lib.hid (fun k => xloose_any (hB.drewN k).rf)
  have KC := Lib.hid (fun k => calls_any (hB.drewN k).dv)
  have f5 := hB.rf.f5
  have f4 := hB.rf.f4
  rw [hB.r.down] at KD
  rw [hB.r.lo] at KL
  rw [hB.r.calls] at KC
  have bc := hB.r.dok.calls
  have bc2 := hM.hc
  rw [hB.r.calls] at bc bc2
  clear hM hb2 hB KM
  generalize x.down = xd at *
  generalize x.calls = xc at *
  generalize x.is.count true = xl at *
  unfold dp at KR KD KS KL KC
  unfold xp at KX KY
  have K1 := KR.out o
  rw [(RR.out o).1, (RR.out o).2] at K1
  have K2 := KX.out o
  have K1 := Lib.hid K1
  have K2 := Lib.hid K2
  generalize x.readF n o = p at *
  go_wp2_with fail
  refine K1.out.mono ?_
  rintro e w3 ⟨rfl, rfl⟩
  go_wp2_with fail
  refine K2.out.mono ?_
  rintro e w3 ⟨rfl, rfl⟩
  go_wp2_with fail
  go_quiet ((first | (go_at_call 14; exact quietS (KD.out _)) | (go_at_call 24; exact quietS (KS.out _)) | (go_at_call 13; exact quietS (KL.out _)) | (go_at_call 25; exact quietS (KY.out _)) | (go_at_call 22; exact quietS (KC.out _))))
  clear f5 f4
  go_wp2_with fail
  have HB0 := Lib.hid (HB.out.drewN nq)
  have O3 := Lib.hid (Below_drewN O2.out nq)
  generalize w2.drewN nq = w3 at *
  go_loopw [14] (fun iv wr => ∃ k : Nat, k ≤ 12 ∧ iv = .int .i64 k ∧ wr = w3) (fun iv _ => 12 - (intOf iv).toNat)
  case atStart => exact ⟨0, by omega, rfl, rfl⟩
  case round =>
    obtain ⟨k, hk, rfl, rfl⟩ := hrel
    by_cases h : k < n ∧ k < 12
    · obtain ⟨h1, h2⟩ := h
      have K1 := read_any HB0.out.dv k
      rw [(HB0.out.r.read k).1, (HB0.out.r.read k).2] at K1
      have K1 := Lib.hid K1
      have K2 := Lib.hid (xread_any HB0.out.rf k)
      unfold dp at K1
      unfold xp at K2
      generalize x.readF n k = q at *
      go_wp2_with fail
      refine K1.out.mono ?_
      rintro e w4 ⟨rfl, rfl⟩
      go_wp2_with fail
      refine K2.out.mono ?_
      rintro e w4 ⟨rfl, rfl⟩
      go_wp2_with fail
      go_roundw
      case rel => exact ⟨k + 1, by omega, by go_num, by first | rfl | trivial⟩
      case measure => simp [intOf]; omega
    · have hx : ¬ k < n ∨ (k < n ∧ ¬ k < 12) := by omega
      clear h
      rcases hx with h1 | ⟨h1, h2⟩
      all_goals
        go_wp2_with fail
        go_ret
        exact ⟨rfl, O3.out⟩
set_option maxRecDepth 100000 in
set_option maxHeartbeats 1000000 in
theorem walk_out {w : World} (n : Int) (h : n < 1 ∨ 4096 < n) (A : Option Addr) (m c : Nat) (o : Int) :
    Calls Try.prog 6 #[.int .i64 n, .slice A m c, .int .i64 o] w fun e w' => e = .returned (.bool true) ∧ Below w.heap.size w w' := by
  have KM := Lib.hid (made_no (w := w) n A m c h)
  go_enter Try.func6, Try.ntmps6
  go_wp2_with fail
  refine KM.out.mono ?_
  rintro e w1 ⟨rfl, rfl⟩
  go_wp2_with fail
  refine (awake_any _).mono ?_
  rintro e w2 ⟨rfl, hb2⟩
  go_wp2_with fail
  refine (awake_any _).mono ?_
  rintro e w3 ⟨rfl, hb3⟩
  go_wp2_with fail
  go_ret
  exact ⟨rfl, bstep hb2 hb3⟩
theorem walk {H : Type} {enc : TypeId × Value → H} {w : World} {base : Nat} (n : Int) (_hn : (Lit.int .i64 n).wf = true) {v : Value} {d : DataW H} {ps : List MemPlace} (hok : Value.okWide Try.prog w .any base 22 v) (h : DataW.Trod enc Try.prog w 0 (fun _ => true) true 22 v d ps) (o : Int) (_ho : (Lit.int .i64 o).wf = true) :
    Calls Try.prog 6 #[.int .i64 n, v, .int .i64 o] w fun e w' => e = .returned (.bool true) ∧ Below w.heap.size w w' := by
  obtain ⟨A, m, c, F, rfl, hm, ha⟩ := acts_of hok h
  by_cases hn : n < 1 ∨ 4096 < n
  · exact walk_out n hn A m c o
  · obtain ⟨k, rfl⟩ := Int.eq_ofNat_of_zero_le (show 0 ≤ n by omega)
    exact walk_in k (by omega) (by omega) A m c F hm ha o

set_option maxRecDepth 100000 in
theorem contract (H : Type) (enc : TypeId × Value → H) (W : World) (base : Nat) (args : Array Value) (ds gs : List (DataW H)) (before : List MemPlace)
    (hval0 : ∀ (j : Nat) t v, Try.f6.params[j]? = some t → args[j]? = some v → Value.okWide Try.prog W .any base t v)
    (hW : DataW.Whole enc Try.prog Try.f6.params.toList Rows.diskDoesSpec.vars false W args.toList ds gs before) :
    Calls Try.prog 6 args W fun e W' => ∃ v, e = .returned v ∧ Rows.diskDoesSpec.post enc Try.prog Try.f6 false true false false W args v W' := by
  have hval := hval0
  have hW' := hW
  obtain ⟨p, q, hA0, hV, rfl, hfz, hnd⟩ := hW
  have hA : DataW.TrodAll enc Try.prog W 0 (fun _ => true) true Try.f6.params.toList args.toList ds p := hA0
  have hlt : ∀ x ∈ p, x.block < W.heap.size := fun x hx => by simpa using hW'.lt x (List.mem_append_left _ hx)
  rw [Try.params6] at hA hval
  obtain ⟨v0, vs0, d0, ds0, p0, q0, hargs, rfl, rfl, h0, r0⟩ := trodAll_cons hA
  obtain ⟨v1, vs1, d1, ds1, p1, q1, rfl, rfl, rfl, h1, r1⟩ := trodAll_cons r0
  obtain ⟨v2, vs2, d2, ds2, p2, q2, rfl, rfl, rfl, h2, r2⟩ := trodAll_cons r1
  obtain ⟨rfl, rfl, rfl⟩ := trodAll_nil r2
  obtain rfl : args = #[v0, v1, v2] := by cases args; simp_all
  obtain ⟨rfl, rfl⟩ := trodVars_none hV
  obtain ⟨a0, rfl, rfl, rfl, w0⟩ := open_int Try.underlying3 (hval 0 3 v0 rfl rfl) h0
  obtain ⟨a2, rfl, rfl, rfl, w2⟩ := open_int Try.underlying3 (hval 2 3 v2 rfl rfl) h2
  refine (walk a0 w0 (hval 1 22 v1 rfl rfl) h1 a2 w2 ).mono fun e W1 ⟨he, hb⟩ => ?_
  subst he
  exact ⟨_, rfl, law_post laidOut hW' rfl (by kernel_rfl) (by rfl) Try.underlying4 rfl hb⟩

set_option maxRecDepth 100000 in
theorem lifted (os : Os) (started : os.Started) (H : Type) (enc : TypeId × Value → H) :
    ReturnsInHanded {} Try.checked os 6 .any (Rows.diskDoesSpec.pre6 enc Try.prog Try.f6 Rows.diskDoesRow.domain false) (Rows.diskDoesSpec.post enc Try.prog Try.f6 false true false false) := by
  refine returnsInHanded_of_change (C := Try.checked) own started (by kernel_rfl) Try.func6
    (ChangeSpec.witness6 (enc := enc) (C := Try.checked) false ⟨#[], #[.int .i64 0, .slice none 0 0, .int .i64 0], []⟩ 8 (by kernel_rfl) (by kernel_rfl) (by kernel_rfl) (by kernel_rfl)) ?_
  intro W base args ds gs before hval0 hW hcnd _
  exact contract H enc W base args ds gs before hval0 hW

theorem proved : Rows.DiskDoesSaid :=
  OpenClaim.holds_of_wide 6 Try.f6 rfl rfl rfl rfl rfl rfl rfl ⟨rfl, rfl, rfl, rfl, rfl⟩ rfl rfl rfl rfl rfl (by kernel_rfl) Try.func6 (by kernel_rfl)
    (of_decide_eq_true (by kernel_rfl)) (by unfold Func.isWrapper; first | (rw [if_pos (by decide +kernel)]; kernel_rfl) | (rw [if_neg (by decide +kernel)]; exact ⟨rfl, rfl⟩))
    (fun os started H enc _ => lifted os started H enc)
#print axioms proved
end Go.Proofs.Ytclompapmbhijaa.diskDoes
