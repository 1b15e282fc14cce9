/-
  DiskApart: for every input the law returns true, and each argument reads behind the call as before. No condition of its own.
-/
import Derived.Test.YtclompapmbhijaaDiskLaw
namespace Go.Proofs.Ytclompapmbhijaa.diskApart
open Go.ChangeShapes Go.WideShapes Go.ChangeAt Go.RowKit
open Go.ChangeMaps (open_string shut_string)
set_option linter.unusedVariables false

open Dk
set_option maxRecDepth 100000 in
set_option maxHeartbeats 4000000 in
theorem walk_in {w : World} (A : Option Addr) (m c : Nat) (F : Nat → Ac) (hm : m ≤ 9223372036854775807) (hacts : Acts w A m F) (i : Int) (s : ByteArray) (hs : s.size ≤ 500) :
    Calls Try.prog 4 #[.slice A m c, .int .i64 i, .string s] w fun e w' => e = .returned (.bool true) ∧ Below w.heap.size w w' := by
  have KM := Lib.hid (made_yes 6 A m c F hacts hm (by omega) (by omega))
  clear hacts
  unfold dp xp at KM
  go_enter Try.func4, Try.ntmps4
  go_wp2_with fail
  refine KM.out.mono ?_
  rintro e w1 ⟨L, M, d, x, rfl, hM⟩
  go_wp2_with fail
  refine (awake_any _).mono ?_
  rintro e w2 ⟨rfl, hb2⟩
  have hB := hM.both.below hb2
  have FR := Lib.hid hM.fr
  have O2 := Lib.hid (bstep hM.below hb2)
  have HB := Lib.hid hB
  obtain ⟨e1, R1⟩ := hB.r.write i s
  have bc := hM.hc
  have br := hM.hr
  have K1 := write_any hB.dv i s (by omega) br
  rw [e1] at K1
  have K1 := Lib.hid K1
  have a0 := hB.r.dok.armed
  have c0 := hB.r.dok.calls
  have X1 := Lib.hid (fun (w1 : World) (hx : XAt w1 M 6 x) => xwrite_any hx i s (by omega) (by rw [← hB.r.calls]; omega) (by rw [← hB.r.calls]; omega) (by rw [← hB.r.arm]; omega) (by rw [← hB.r.arm]; omega))
  have RR := Lib.hid R1
  have HF := Lib.hid (X.write_now hB.r.xok i s)
  clear hM hb2 hB KM e1 R1 bc br a0 c0
  generalize (x.writeF 6 i s).2 = p at *
  generalize (x.writeF 6 i s).1 = x' at *
  generalize (d.writeF 6 i s.data.toList).1 = d' at *
  unfold dp at K1
  unfold xp at X1
  go_wp2_with fail
  refine K1.out.mono ?_
  rintro e w3 ⟨rfl, D3, o3⟩
  have X3 := Lib.hid (HB.out.ref o3)
  have KX := Lib.hid (X1.out _ X3.out.drew)
  have HBf := Lib.hid (fun (w4 : World) (hx : XAt w4 M 6 x') (o4 : Only M.fp w3.drew w4) => (⟨D3.drew.only o4 HB.out.apart, hx, RR.out, HB.out.ap⟩ : Both w4 L M 6 d' x'))
  have HOf := Lib.hid (fun (w4 : World) (o4 : Only M.fp w3.drew w4) => ((bfpL L M o3.drew).trans (bfpM L M o4)).below_of (B := w.heap.size) O2.out.size FR.out)
  have O2' := Lib.hid (fun (w4 : World) (h : Below w.heap.size w2 w4) => O2.out.trans h)
  clear D3 o3 K1
  go_wp2_with fail
  go_region_with (first | (go_at_call 16; refine KX.out.mono ?_; rintro e w4 ⟨rfl, R2, o4⟩; have B4 := Lib.hid (HBf.out _ R2 o4); have O4 := Lib.hid (O2'.out _ (HOf.out _ o4)); have f5 := B4.out.rf.f5; have KD := down_any B4.out.dv; rw [B4.out.r.down] at KD; have KD := Lib.hid KD; unfold dp at KD; clear R2 o4) | (go_at_call 14; refine KD.out.mono ?_; rintro e w5 ⟨rfl, rfl⟩))
  all_goals
    clear f5 KD X1 HBf HOf KX
    go_wp2_with fail
    go_loopw [11] (fun iv wr => ∃ k : Nat, k ≤ 6 ∧ iv = .int .i64 k ∧ Both wr L M 6 d' x' ∧ Below w.heap.size w wr) (fun iv _ => 6 - (intOf iv).toNat)
    case atStart => exact ⟨0, by omega, rfl, B4.out, O4.out⟩
    case round =>
      obtain ⟨k, hk, rfl, hB, O⟩ := hrel
      have f5 := hB.rf.f5
      cases hd : x'.down
      · rw [hd] at f5
        by_cases hk6 : k < 6
        · have e2 : x'.readF 6 k = (x'.nowF k, 0) := by
            unfold X.readF
            rw [if_neg (by simp [hd]), if_pos ⟨by omega, by omega⟩, Int.toNat_natCast]
          have KR := read_any hB.dv k
          rw [(hB.r.read k).1, (hB.r.read k).2, e2] at KR
          have KR := Lib.hid KR
          have KN := Lib.hid (xnow_any hB.rf k hk6)
          have KF := Lib.hid (fill_any s wr (by omega))
          rw [show (⟨(fillF s.data.toList).toArray⟩ : ByteArray) = fillB s from rfl] at KF
          have HFk := Lib.hid (HF.out hd k hk6)
          have HBB := Lib.hid hB
          have HO := Lib.hid O
          unfold dp at KR
          unfold xp at KN
          clear e2 hB O hd
          by_cases hki : (k : Int) = i
          · rw [HFk.out hki] at KR KN
            subst hki
            generalize fillB s = T at *
            go_wp2_with fail
            refine KR.out.mono ?_
            rintro e w6 ⟨rfl, rfl⟩
            go_wp2_with fail
            refine KN.out.mono ?_
            rintro e w6 ⟨rfl, rfl⟩
            go_wp2_with fail
            refine KF.out.mono ?_
            rintro e w6 ⟨rfl, hb6⟩
            have B6 := Lib.hid (HBB.out.below hb6)
            have O6 := Lib.hid (bstep HO.out hb6)
            clear hb6
            go_wp2_with fail
            go_roundw
            case rel => exact ⟨k + 1, by omega, by go_num, B6.out, O6.out⟩
            case measure => simp [intOf]; omega
          · have hne : ((k : Int) == i) = false := by simpa using hki
            generalize x'.nowF k = T at *
            clear hki
            go_wp2_with fail
            refine KR.out.mono ?_
            rintro e w6 ⟨rfl, rfl⟩
            go_wp2_with fail
            refine KN.out.mono ?_
            rintro e w6 ⟨rfl, rfl⟩
            go_wp2_with fail
            go_roundw
            case rel => exact ⟨k + 1, by omega, by go_num, HBB.out, HO.out⟩
            case measure => simp [intOf]; omega
        · have HO := Lib.hid O
          clear O hB hd
          go_wp2_with fail
          go_ret
          exact ⟨rfl, HO.out⟩
      · rw [hd] at f5
        have HO := Lib.hid O
        clear O hB hd
        by_cases hk6 : k < 6
        all_goals
          go_wp2_with fail
          go_ret
          exact ⟨rfl, HO.out⟩
set_option maxRecDepth 100000 in
set_option maxHeartbeats 4000000 in
theorem walk_long {w : World} (A : Option Addr) (m c : Nat) (F : Nat → Ac) (hm : m ≤ 9223372036854775807) (hacts : Acts w A m F) (i : Int) (s : ByteArray) (hs : 500 < s.size) (hs2 : s.size ≤ 9223372036854775807) :
    Calls Try.prog 4 #[.slice A m c, .int .i64 i, .string s] w fun e w' => e = .returned (.bool true) ∧ Below w.heap.size w w' := by
  have KM := Lib.hid (made_yes 6 A m c F hacts hm (by omega) (by omega))
  clear hacts
  unfold dp xp at KM
  go_enter Try.func4, Try.ntmps4
  go_wp2_with fail
  refine KM.out.mono ?_
  rintro e w1 ⟨L, M, d, x, rfl, hM⟩
  have O1 := Lib.hid hM.below
  clear hM
  go_wp2_with fail
  refine (awake_any _).mono ?_
  rintro e w2 ⟨rfl, hb2⟩
  have O2 := Lib.hid (bstep O1.out hb2)
  clear hb2
  go_wp2_with fail
  refine (awake_any _).mono ?_
  rintro e w3 ⟨rfl, hb3⟩
  have O3 := Lib.hid (bstep O2.out hb3)
  clear hb3
  go_wp2_with fail
  go_ret
  exact ⟨rfl, O3.out⟩
theorem walk {H : Type} {enc : TypeId × Value → H} {w : World} {base : Nat} {v : Value} {d : DataW H} {ps : List MemPlace} (hok : Value.okWide Try.prog w .any base 22 v) (h : DataW.Trod enc Try.prog w 0 (fun _ => true) true 22 v d ps) (i : Int) (_hi : (Lit.int .i64 i).wf = true) (s : ByteArray) (hs : s.size ≤ maxLen) :
    Calls Try.prog 4 #[v, .int .i64 i, .string s] w fun e w' => e = .returned (.bool true) ∧ Below w.heap.size w w' := by
  obtain ⟨A, m, c, F, rfl, hm, ha⟩ := acts_of hok h
  unfold maxLen at hs
  by_cases hl : s.size ≤ 500
  · exact walk_in A m c F hm ha i s hl
  · exact walk_long A m c F hm ha i s (by omega) hs

set_option maxRecDepth 100000 in
theorem contract (H : Type) (enc : TypeId × Value → H) (W : World) (base : Nat) (args : Array Value) (ds gs : List (DataW H)) (before : List MemPlace)
    (hval0 : ∀ (j : Nat) t v, Try.f4.params[j]? = some t → args[j]? = some v → Value.okWide Try.prog W .any base t v)
    (hW : DataW.Whole enc Try.prog Try.f4.params.toList Rows.diskApartSpec.vars false W args.toList ds gs before) :
    Calls Try.prog 4 args W fun e W' => ∃ v, e = .returned v ∧ Rows.diskApartSpec.post enc Try.prog Try.f4 false true false false W args v W' := by
  have hval := hval0
  have hW' := hW
  obtain ⟨p, q, hA0, hV, rfl, hfz, hnd⟩ := hW
  have hA : DataW.TrodAll enc Try.prog W 0 (fun _ => true) true Try.f4.params.toList args.toList ds p := hA0
  have hlt : ∀ x ∈ p, x.block < W.heap.size := fun x hx => by simpa using hW'.lt x (List.mem_append_left _ hx)
  rw [Try.params4] at hA hval
  obtain ⟨v0, vs0, d0, ds0, p0, q0, hargs, rfl, rfl, h0, r0⟩ := trodAll_cons hA
  obtain ⟨v1, vs1, d1, ds1, p1, q1, rfl, rfl, rfl, h1, r1⟩ := trodAll_cons r0
  obtain ⟨v2, vs2, d2, ds2, p2, q2, rfl, rfl, rfl, h2, r2⟩ := trodAll_cons r1
  obtain ⟨rfl, rfl, rfl⟩ := trodAll_nil r2
  obtain rfl : args = #[v0, v1, v2] := by cases args; simp_all
  obtain ⟨rfl, rfl⟩ := trodVars_none hV
  obtain ⟨a1, rfl, rfl, rfl, w1⟩ := open_int Try.underlying3 (hval 1 3 v1 rfl rfl) h1
  obtain ⟨s2, rfl, rfl, rfl, hs2⟩ := open_string Try.underlying9 (hval 2 9 v2 rfl rfl) h2
  refine (walk (hval 0 22 v0 rfl rfl) h0 a1 w1 s2 hs2 ).mono fun e W1 ⟨he, hb⟩ => ?_
  subst he
  exact ⟨_, rfl, law_post laidOut hW' rfl (by kernel_rfl) (by rfl) Try.underlying4 rfl hb⟩

set_option maxRecDepth 100000 in
theorem lifted (os : Os) (started : os.Started) (H : Type) (enc : TypeId × Value → H) :
    ReturnsInHanded {} Try.checked os 4 .any (Rows.diskApartSpec.pre6 enc Try.prog Try.f4 Rows.diskApartRow.domain false) (Rows.diskApartSpec.post enc Try.prog Try.f4 false true false false) := by
  refine returnsInHanded_of_change (C := Try.checked) own started (by kernel_rfl) Try.func4
    (ChangeSpec.witness6 (enc := enc) (C := Try.checked) false ⟨#[], #[.slice none 0 0, .int .i64 0, .string .empty], []⟩ 8 (by kernel_rfl) (by kernel_rfl) (by kernel_rfl) (by kernel_rfl)) ?_
  intro W base args ds gs before hval0 hW hcnd _
  exact contract H enc W base args ds gs before hval0 hW

theorem proved : Rows.DiskApartSaid :=
  OpenClaim.holds_of_wide 4 Try.f4 rfl rfl rfl rfl rfl rfl rfl ⟨rfl, rfl, rfl, rfl, rfl⟩ rfl rfl rfl rfl rfl (by kernel_rfl) Try.func4 (by kernel_rfl)
    (of_decide_eq_true (by kernel_rfl)) (by unfold Func.isWrapper; first | (rw [if_pos (by decide +kernel)]; kernel_rfl) | (rw [if_neg (by decide +kernel)]; exact ⟨rfl, rfl⟩))
    (fun os started H enc _ => lifted os started H enc)
#print axioms proved
end Go.Proofs.Ytclompapmbhijaa.diskApart
