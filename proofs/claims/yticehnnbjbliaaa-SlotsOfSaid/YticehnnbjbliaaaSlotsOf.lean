/-
  SlotsOf: for every input the law returns true, and each argument reads behind the call as before. No condition of its own.
-/
import Derived.Test.YticehnnbjbliaaaSlOf
namespace Go.Proofs.Yticehnnbjbliaaa.slotsOf
open Go.ChangeShapes Go.WideShapes Go.ChangeAt Go.RowKit
open Go.ChangeMaps (open_string shut_string)
set_option linter.unusedVariables false

open Sl
attribute [local go_sem ↓] exec_app
set_option maxRecDepth 100000 in
set_option maxHeartbeats 4000000 in
theorem walk_in {w : World} (A : Option Addr) (n c : Nat) (ss : Nat → ByteArray) (hn : n ≤ 9223372036854775807) (hc : n ≤ c) (hs : ∀ k, k < n → ∃ ad, A = some ad ∧ w.cell? (ad.add k) = some (.string (ss k)) ∧ (ss k).size ≤ maxLen) :
    Calls Try.prog 7 #[.slice A n c] w fun e w' => e = .returned (.bool true) ∧ Below w.heap.size w w' := by
  have HC := Lib.hid (show ∀ (wr : World) (k : Nat), Below w.heap.size w wr → k < n → ∃ ad, A = some ad ∧ wr.cell? (ad.add k) = some (.string (ss k)) ∧ (ss k).size ≤ 9223372036854775807 from fun wr k hb hk => by
    obtain ⟨ad, e, h1, h2⟩ := hs k hk
    exact ⟨ad, e, (hb.cell (by rw [block_of_add]; exact cell_lt h1)).trans h1, by unfold maxLen at h2; omega⟩)
  clear hs
  obtain ⟨m, hm, hm80, hmn⟩ : ∃ m, ((n ≤ 80 ∧ m = n) ∨ (80 < n ∧ m = 80)) ∧ m ≤ 80 ∧ m ≤ n := by
    by_cases h : n ≤ 80
    · exact ⟨n, .inl ⟨h, rfl⟩, h, Nat.le_refl _⟩
    · exact ⟨80, .inr ⟨by omega, rfl⟩, Nat.le_refl _, by omega⟩
  have HSU := Lib.hid (cutTo_succ ss)
  have HLE := Lib.hid (cutTo_length ss m)
  have HSM := Lib.hid (cutTo_small ss m)
  have H0 := Lib.hid (show cutTo ss 0 = [] from rfl)
  rcases hm with ⟨hm, rfl⟩ | ⟨hm, rfl⟩
  · go_enter Try.func7, Try.ntmps7
    go_wp2_with fail
    go_loopw [3, 4, 5] (fun v iv _ wr => ∃ k : Nat, k ≤ m ∧ iv = .int .i64 k ∧ Slc wr 9 1 v k (strs (cutTo ss k)) ∧ Below w.heap.size w wr ∧ Hid (∀ g ∈ ownB v, w.heap.size ≤ g)) (fun _ iv _ _ => m - (intOf iv).toNat)
    case atStart => exact ⟨0, Nat.zero_le _, rfl, by rw [H0.out]; exact Slc.nil _ _ _, Below.refl _ _, Lib.hid (by simp [ownB])⟩
    case round =>
      obtain ⟨k, hk, rfl, S, O, F⟩ := hrel
      obtain ⟨VA, vc, rfl⟩ := slc_val S
      have OO := Lib.hid O
      by_cases h : k < m
      · obtain ⟨ad, rfl, c0, hz⟩ := HC.out wr k O (by omega)
        have HS := Lib.hid (HSU.out k)
        obtain ⟨R, hR⟩ := ba_of ((ss k).data.toList.take 300)
        rw [← hR] at HS
        have HX := Lib.hid (show (ss k).size ≤ 300 → ss k = R from fun hle => by
          rw [List.take_of_length_le (by simpa using hle)] at hR
          exact (ByteArray.ext (Array.toList_inj.1 hR)).symm)
        have HY := Lib.hid (show (ss k).extract 0 300 = R from by
          have e := extract_list (ss k) 0 300
          rw [Nat.zero_add, List.drop_zero, ← hR, ba_eq] at e
          exact e)
        obtain ⟨v', w2, ea, S2, o2, F2⟩ := append_one (P := Try.prog) S 30 30 (.string .empty) 16 Try.underlying30 info_string rfl (.string R) rfl (by unfold maxLen; omega) (by omega)
        have hRR : Value.string R = .string ⟨R.data.toList.toArray⟩ := by rw [ba_eq]
        rw [hRR, strs_snoc, ← HS.out] at S2
        have F3 := Lib.hid (show ∀ g ∈ ownB v', w.heap.size ≤ g from fun g hg => (F2 g hg).elim (F.out g) (fun h => Nat.le_trans O.size h))
        have O2 := Lib.hid (O.trans (o2.below_of O.size F.out))
        obtain ⟨V2, c2, rfl⟩ := slc_val S2
        have S2 := Lib.hid S2
        clear S O o2 F2 hR hRR
        by_cases hle : (ss k).size ≤ 300
        · rw [HX.out hle] at c0 hle
          generalize ss k = s0 at *
          clear hz
          have hle2 : (R.size : Int) ≤ 300 := by omega
          go_wp2_with fail
          go_roundw
          case rel => exact ⟨k + 1, by omega, by go_num, S2.out, O2.out, F3⟩
          case measure => simp [intOf]; omega
        · have HYk := HY.out
          clear HY
          generalize ss k = s0 at *
          have hle2 : (300 : Int) < (s0.size : Int) := by omega
          go_wp2_with fail
          go_roundw
          case rel => exact ⟨k + 1, by omega, by go_num, S2.out, O2.out, F3⟩
          case measure => simp [intOf]; omega
      · obtain rfl : m = k := by omega
        have KO := Lib.hid (of_any (by rw [HLE.out]; exact S) (by rw [HLE.out]; omega) (fun r hr => by have := HSM.out r hr; omega))
        have S := Lib.hid S
        clear O
        go_wp2_with fail
        refine KO.out.mono ?_
        rintro e w2 ⟨hx, hb2⟩
        have S2 := Lib.hid (S.out.below hb2)
        have O2 := Lib.hid (bstep OO.out hb2)
        have KR := Lib.hid (rroom_any S2.out (by omega) (fun r hr => by have := HSM.out r hr; omega))
        clear hb2
        rcases hx with ⟨h0, T, rfl, sT, rT⟩ | ⟨h0, rfl⟩
        · have KS := Lib.hid (fun (w' : World) (S' : Slc w' 9 1 (.slice VA m vc) m (strs (cutTo ss m))) => samep_any T sT rT HLE.out S')
          clear sT rT
          generalize roomR (cutTo ss m) = room at *
          go_wp2_with fail
          refine KR.out.mono ?_
          rintro e w3 ⟨rfl, rfl⟩
          go_wp2_with fail
          refine (awake_any _).mono ?_
          rintro e w4 ⟨rfl, hb4⟩
          have S4 := Lib.hid (S2.out.below hb4)
          have O4 := Lib.hid (bstep O2.out hb4)
          have K5 := Lib.hid (KS.out _ S4.out)
          clear hb4
          go_wp2_with fail
          refine K5.out.mono ?_
          rintro e w5 ⟨rfl, hb5⟩
          have O5 := Lib.hid (bstep O4.out hb5)
          clear hb5
          go_wp2_with fail
          go_ret
          exact ⟨rfl, O5.out⟩
        · generalize roomR (cutTo ss m) = room at *
          go_wp2_with fail
          refine KR.out.mono ?_
          rintro e w3 ⟨rfl, rfl⟩
          go_wp2_with fail
          refine (awake_any _).mono ?_
          rintro e w4 ⟨rfl, hb4⟩
          have O4 := Lib.hid (bstep O2.out hb4)
          clear hb4
          go_wp2_with fail
          go_ret
          exact ⟨by first | rfl | simp, O4.out⟩
  · go_enter Try.func7, Try.ntmps7
    go_wp2_with fail
    go_loopw [3, 4, 5] (fun v iv _ wr => ∃ k : Nat, k ≤ 80 ∧ iv = .int .i64 k ∧ Slc wr 9 1 v k (strs (cutTo ss k)) ∧ Below w.heap.size w wr ∧ Hid (∀ g ∈ ownB v, w.heap.size ≤ g)) (fun _ iv _ _ => 80 - (intOf iv).toNat)
    case atStart => exact ⟨0, Nat.zero_le _, rfl, by rw [H0.out]; exact Slc.nil _ _ _, Below.refl _ _, Lib.hid (by simp [ownB])⟩
    case round =>
      obtain ⟨k, hk, rfl, S, O, F⟩ := hrel
      obtain ⟨VA, vc, rfl⟩ := slc_val S
      have OO := Lib.hid O
      by_cases h : k < 80
      · obtain ⟨ad, rfl, c0, hz⟩ := HC.out wr k O (by omega)
        have HS := Lib.hid (HSU.out k)
        obtain ⟨R, hR⟩ := ba_of ((ss k).data.toList.take 300)
        rw [← hR] at HS
        have HX := Lib.hid (show (ss k).size ≤ 300 → ss k = R from fun hle => by
          rw [List.take_of_length_le (by simpa using hle)] at hR
          exact (ByteArray.ext (Array.toList_inj.1 hR)).symm)
        have HY := Lib.hid (show (ss k).extract 0 300 = R from by
          have e := extract_list (ss k) 0 300
          rw [Nat.zero_add, List.drop_zero, ← hR, ba_eq] at e
          exact e)
        obtain ⟨v', w2, ea, S2, o2, F2⟩ := append_one (P := Try.prog) S 30 30 (.string .empty) 16 Try.underlying30 info_string rfl (.string R) rfl (by unfold maxLen; omega) (by omega)
        have hRR : Value.string R = .string ⟨R.data.toList.toArray⟩ := by rw [ba_eq]
        rw [hRR, strs_snoc, ← HS.out] at S2
        have F3 := Lib.hid (show ∀ g ∈ ownB v', w.heap.size ≤ g from fun g hg => (F2 g hg).elim (F.out g) (fun h => Nat.le_trans O.size h))
        have O2 := Lib.hid (O.trans (o2.below_of O.size F.out))
        obtain ⟨V2, c2, rfl⟩ := slc_val S2
        have S2 := Lib.hid S2
        clear S O o2 F2 hR hRR
        by_cases hle : (ss k).size ≤ 300
        · rw [HX.out hle] at c0 hle
          generalize ss k = s0 at *
          clear hz
          have hle2 : (R.size : Int) ≤ 300 := by omega
          go_wp2_with fail
          go_roundw
          case rel => exact ⟨k + 1, by omega, by go_num, S2.out, O2.out, F3⟩
          case measure => simp [intOf]; omega
        · have HYk := HY.out
          clear HY
          generalize ss k = s0 at *
          have hle2 : (300 : Int) < (s0.size : Int) := by omega
          go_wp2_with fail
          go_roundw
          case rel => exact ⟨k + 1, by omega, by go_num, S2.out, O2.out, F3⟩
          case measure => simp [intOf]; omega
      · obtain rfl : k = 80 := by omega
        have KO := Lib.hid (of_any (by rw [HLE.out]; exact S) (by rw [HLE.out]; omega) (fun r hr => by have := HSM.out r hr; omega))
        have S := Lib.hid S
        clear O
        go_wp2_with fail
        refine KO.out.mono ?_
        rintro e w2 ⟨hx, hb2⟩
        have S2 := Lib.hid (S.out.below hb2)
        have O2 := Lib.hid (bstep OO.out hb2)
        have KR := Lib.hid (rroom_any S2.out (by omega) (fun r hr => by have := HSM.out r hr; omega))
        clear hb2
        rcases hx with ⟨h0, T, rfl, sT, rT⟩ | ⟨h0, rfl⟩
        · have KS := Lib.hid (fun (w' : World) (S' : Slc w' 9 1 (.slice VA 80 vc) 80 (strs (cutTo ss 80))) => samep_any T sT rT HLE.out S')
          clear sT rT
          generalize roomR (cutTo ss 80) = room at *
          go_wp2_with fail
          refine KR.out.mono ?_
          rintro e w3 ⟨rfl, rfl⟩
          go_wp2_with fail
          refine (awake_any _).mono ?_
          rintro e w4 ⟨rfl, hb4⟩
          have S4 := Lib.hid (S2.out.below hb4)
          have O4 := Lib.hid (bstep O2.out hb4)
          have K5 := Lib.hid (KS.out _ S4.out)
          clear hb4
          go_wp2_with fail
          refine K5.out.mono ?_
          rintro e w5 ⟨rfl, hb5⟩
          have O5 := Lib.hid (bstep O4.out hb5)
          clear hb5
          go_wp2_with fail
          go_ret
          exact ⟨rfl, O5.out⟩
        · generalize roomR (cutTo ss 80) = room at *
          go_wp2_with fail
          refine KR.out.mono ?_
          rintro e w3 ⟨rfl, rfl⟩
          go_wp2_with fail
          refine (awake_any _).mono ?_
          rintro e w4 ⟨rfl, hb4⟩
          have O4 := Lib.hid (bstep O2.out hb4)
          clear hb4
          go_wp2_with fail
          go_ret
          exact ⟨by first | rfl | simp, O4.out⟩
theorem walk {H : Type} {enc : TypeId × Value → H} {w : World} {base : Nat} {v : Value} {d : DataW H} {ps : List MemPlace} (hok : Value.okWide Try.prog w .any base 30 v) (h : DataW.Trod enc Try.prog w 0 (fun _ => true) true 30 v d ps) :
    Calls Try.prog 7 #[v] w fun e w' => e = .returned (.bool true) ∧ Below w.heap.size w w' := by
  obtain ⟨A, n, c, ss, rfl, hn, hc, hs⟩ := strs_view2 Try.underlying30 Try.underlying9 (by kernel_rfl) hok h
  exact walk_in A n c ss (by unfold maxLen at hn; omega) hc hs

set_option maxRecDepth 100000 in
theorem contract (H : Type) (enc : TypeId × Value → H) (W : World) (base : Nat) (args : Array Value) (ds gs : List (DataW H)) (before : List MemPlace)
    (hval0 : ∀ (j : Nat) t v, Try.f7.params[j]? = some t → args[j]? = some v → Value.okWide Try.prog W .any base t v)
    (hW : DataW.Whole enc Try.prog Try.f7.params.toList Rows.slotsOfSpec.vars false W args.toList ds gs before) :
    Calls Try.prog 7 args W fun e W' => ∃ v, e = .returned v ∧ Rows.slotsOfSpec.post enc Try.prog Try.f7 false true false false W args v W' := by
  have hval := hval0
  have hW' := hW
  obtain ⟨p, q, hA0, hV, rfl, hfz, hnd⟩ := hW
  have hA : DataW.TrodAll enc Try.prog W 0 (fun _ => true) true Try.f7.params.toList args.toList ds p := hA0
  have hlt : ∀ x ∈ p, x.block < W.heap.size := fun x hx => by simpa using hW'.lt x (List.mem_append_left _ hx)
  rw [Try.params7] at hA hval
  obtain ⟨v0, vs0, d0, ds0, p0, q0, hargs, rfl, rfl, h0, r0⟩ := trodAll_cons hA
  obtain ⟨rfl, rfl, rfl⟩ := trodAll_nil r0
  obtain rfl : args = #[v0] := by cases args; simp_all
  obtain ⟨rfl, rfl⟩ := trodVars_none hV
  refine (walk (hval 0 30 v0 rfl rfl) h0 ).mono fun e W1 ⟨he, hb⟩ => ?_
  subst he
  exact ⟨_, rfl, law_post laidOut hW' rfl (by kernel_rfl) (by rfl) Try.underlying4 rfl hb⟩

set_option maxRecDepth 100000 in
theorem lifted (os : Os) (started : os.Started) (H : Type) (enc : TypeId × Value → H) :
    ReturnsInHanded {} Try.checked os 7 .any (Rows.slotsOfSpec.pre6 enc Try.prog Try.f7 Rows.slotsOfRow.domain false) (Rows.slotsOfSpec.post enc Try.prog Try.f7 false true false false) := by
  refine returnsInHanded_of_change (C := Try.checked) own started (by kernel_rfl) Try.func7
    (ChangeSpec.witness6 (enc := enc) (C := Try.checked) false ⟨#[], #[.slice none 0 0], []⟩ 8 (by kernel_rfl) (by kernel_rfl) (by kernel_rfl) (by kernel_rfl)) ?_
  intro W base args ds gs before hval0 hW hcnd _
  exact contract H enc W base args ds gs before hval0 hW

theorem proved : Rows.SlotsOfSaid :=
  OpenClaim.holds_of_wide 7 Try.f7 rfl rfl rfl rfl rfl rfl rfl ⟨rfl, rfl, rfl, rfl, rfl⟩ rfl rfl rfl rfl rfl (by kernel_rfl) Try.func7 (by kernel_rfl)
    (of_decide_eq_true (by kernel_rfl)) (by unfold Func.isWrapper; first | (rw [if_pos (by decide +kernel)]; kernel_rfl) | (rw [if_neg (by decide +kernel)]; exact ⟨rfl, rfl⟩))
    (fun os started H enc _ => lifted os started H enc)
#print axioms proved
end Go.Proofs.Yticehnnbjbliaaa.slotsOf
