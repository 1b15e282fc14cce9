/-
  SlotsCompact: for every input the law returns true, and each argument reads behind the call as before. No condition of its own.
-/
import Derived.Test.YticehnnbjbliaaaSlDo2
namespace Go.Proofs.Yticehnnbjbliaaa.slotsCompact
open Go.ChangeShapes Go.WideShapes Go.ChangeAt Go.RowKit
open Go.ChangeMaps (open_string shut_string)
set_option linter.unusedVariables false

open Sl
def sumTo (l : List (List UInt8)) (k : Nat) : Nat := ((l.take k).map List.length).sum
theorem sumTo_succ (l : List (List UInt8)) (k : Nat) (h : k < l.length) : sumTo l (k + 1) = sumTo l k + l[k].length := by
  unfold sumTo
  rw [List.take_succ_eq_append_getElem h, List.map_append, List.sum_append]
  simp
set_option maxRecDepth 100000 in
set_option maxHeartbeats 4000000 in
theorem walk_in {w : World} (A : Option Addr) (m c : Nat) (F : Nat → Ac) (hm : m ≤ 9223372036854775807) (hacts : Acts w A m F) :
    Calls Try.prog 6 #[.slice A m c] w fun e w' => e = .returned (.bool true) ∧ Below w.heap.size w w' := by
  have HA := Lib.hid hacts
  obtain ⟨s0, r0, -, -⟩ := empty_sound
  obtain ⟨T0, h0⟩ := ba_of emptyF
  have KE := Lib.hid (empty_any w)
  rw [← h0, ba_eq] at KE
  rw [← h0] at s0 r0
  have HS := Lib.hid (show Sound T0.data.toList ∧ recs T0.data.toList = [] from ⟨s0, r0⟩)
  clear hacts s0 r0 h0
  go_enter Try.func6, Try.ntmps6
  go_wp2_with fail
  refine KE.out.mono ?_
  rintro e w1 ⟨rfl, hb1⟩
  have E1 := slc_empty w1
  have O1 := Lib.hid (bstep hb1 ((Below.refl w1.heap.size w1).alloc (Nat.le_refl _) (.cells #[] 9)))
  have HP := Lib.hid (show Pair (w1.alloc (.cells #[] 9)) w.heap.size T0 (.slice (some ⟨w1.heap.size, 0, none⟩) 0 0) [] from ⟨HS.out.1, HS.out.2, E1, by have := hb1.size; simpa [ownB] using this⟩)
  clear E1 hb1
  go_wp2_with fail
  generalize w1.alloc (.cells #[] 9) = W1 at *
  go_loopw [3, 4, 5] (fun bv mv iv wr => ∃ (k : Nat) (b : ByteArray) (l : List (List UInt8)), k ≤ 60 ∧ bv = .string b ∧ iv = .int .i64 k ∧ Pair wr w.heap.size b mv l ∧ Below w.heap.size w wr) (fun _ _ iv _ => 60 - (intOf iv).toNat)
  case atStart => exact ⟨0, T0, [], by omega, rfl, rfl, HP.out, O1.out⟩
  case round =>
    obtain ⟨k, b, l, hk, rfl, rfl, P, O⟩ := hrel
    obtain ⟨VA, vc, rfl⟩ := slc_val P.S
    have PP := Lib.hid P
    have OO := Lib.hid O
    clear P O
    by_cases h : k < m ∧ k < 60
    · obtain ⟨h1, h2⟩ := h
      obtain ⟨ad, rfl, AT⟩ := (HA.out.below OO.out) k h1
      have c0 := AT.c0
      have c1 := AT.c1
      have c2 := AT.c2
      have hsz := AT.hr
      clear AT
      generalize F k = a at *
      obtain ⟨kind, ix, r⟩ := a
      simp only at c0 c1 c2 hsz
      by_cases hs : r.size < 400
      · have KD := Lib.hid (do_any PP.out OO.out.size kind ix r (by omega))
        unfold actV at KD
        have hs2 : (r.size : Int) < 400 := by omega
        go_wp2_with fail
        refine KD.out.mono ?_
        rintro e w4 ⟨b4, v4, l4, rfl, P4, hb4⟩
        obtain ⟨V4, c4, rfl⟩ := slc_val P4.S
        have O4 := Lib.hid (bstep OO.out hb4)
        have P4 := Lib.hid P4
        clear hb4
        go_wp2_with fail
        go_roundw
        case rel => exact ⟨k + 1, b4, l4, by omega, rfl, by go_num, P4.out, O4.out⟩
        case measure => simp [intOf]; omega
      · have hs2 : (400 : Int) ≤ (r.size : Int) := by omega
        go_wp2_with fail
        go_roundw
        case rel => exact ⟨k + 1, b, l, by omega, rfl, by go_num, PP.out, OO.out⟩
        case measure => simp [intOf]; omega
    · have hbs := PP.out.s
      have hbr := PP.out.r
      have hsz : b.size = 232 := by have := hbs.len; simpa using this
      obtain ⟨s1, r1, z1, -⟩ := hbs.compact
      have KC1 := Lib.hid (fun w' => compact_any b w' (by omega))
      obtain ⟨T, hT⟩ := ba_of (compactF b.data.toList)
      rw [compactG_ok hbs, ← hT, ba_eq] at KC1
      have e2 : compactF (compactF b.data.toList) = compactF b.data.toList := by
        show withF (compF (recs (compactF b.data.toList))).out _ _ = withF (compF (recs b.data.toList)).out _ _
        rw [r1]
      rw [hbr] at r1 z1
      rw [← hT] at s1 r1 z1 e2
      have hTz : T.size = 232 := by have := s1.len; simpa using this
      have KC2 := Lib.hid (fun w' => compact_any T w' (by omega))
      rw [compactG_ok s1, e2, ba_eq] at KC2
      have KS := Lib.hid (fun (w' : World) (S' : Slc w' 9 1 (.slice VA l.length vc) l.length (strs l)) => samep_any T s1 r1 rfl S')
      have hmany := recs_many hbs
      have hsmall := recs_small hbs
      rw [hbr] at hmany hsmall
      have HLN := Lib.hid (show ∀ k (h : k < l.length), l[k].length ≤ 232 from fun k h => hsmall _ (List.getElem_mem h))
      have HSUM := Lib.hid (sumTo_succ l)
      have hat := at2_lt T.data.toList 2
      have HZ := Lib.hid (show at2 T.data.toList 2 + sumTo l l.length = 232 from by unfold sumTo; rw [List.take_length]; exact z1)
      have HZK := Lib.hid (show ∀ k, k ≤ l.length → sumTo l k ≤ 232 from fun k hk => by
        have h1 := sum_take_le (l.map List.length) k
        unfold sumTo
        rw [List.map_take]
        omega)
      have hg2 : T.data.toList.getD 2 0 = T[2] := getD_size T 2 (by omega)
      have hg3 : T.data.toList.getD 3 0 = T[3] := getD_size T 3 (by omega)
      have HV := Lib.hid (show (T[2].toNat : Int) * (256 : Int) + (T[3].toNat : Int) = ((at2 T.data.toList 2 : Nat) : Int) from by unfold at2; rw [hg2, hg3]; omega)
      have b2 := T[2].toNat_lt
      have b3 := T[3].toNat_lt
      have t2 : (2 : Int) < (T.size : Int) := by omega
      have t3 : (3 : Int) < (T.size : Int) := by omega
      have tb : ((T.size : Int) == 232) = true := by simp; omega
      have hx : ¬ k < m ∨ (k < m ∧ ¬ k < 60) := by omega
      clear h s1 r1 z1 e2 hT hsmall hbs hbr hg2 hg3
      rcases hx with h1 | ⟨h1, h2⟩
      all_goals
        go_wp2_with fail
        refine (KC1.out _).mono ?_
        rintro e w5 ⟨rfl, hb5⟩
        have O5 := Lib.hid (bstep OO.out hb5)
        have P5 := Lib.hid (PP.out.below hb5)
        clear hb5
        go_wp2_with fail
        refine (KC2.out _).mono ?_
        rintro e w6 ⟨rfl, hb6⟩
        have O6 := Lib.hid (bstep O5.out hb6)
        have P6 := Lib.hid (P5.out.below hb6)
        clear hb6
        go_wp2_with fail
        refine (awake_any _).mono ?_
        rintro e w7 ⟨rfl, hb7⟩
        have O7 := Lib.hid (bstep O6.out hb7)
        have P7 := Lib.hid (P6.out.below hb7)
        clear hb7
        go_wp2_with fail
        have e4 : IntKind.i64.wrap (T[2].toNat : Int) = (T[2].toNat : Int) := IntWalk.i64_in _ (by omega)
        have e5 : IntKind.i64.wrap ((T[2].toNat : Int) * 256) = (T[2].toNat : Int) * 256 := IntWalk.i64_in _ (by omega)
        have e6 : IntKind.i64.wrap (T[3].toNat : Int) = (T[3].toNat : Int) := IntWalk.i64_in _ (by omega)
        have e9 : IntKind.i64.wrap ((T[2].toNat : Int) * 256 + (T[3].toNat : Int)) = (T[2].toNat : Int) * 256 + (T[3].toNat : Int) := IntWalk.i64_in _ (by omega)
        go_quiet (fail)
        rw [HV.out]
        clear e4 e5 e6 e9 b2 b3
        have O8 := Lib.hid (Below_drewN O7.out nq)
        have P8 := Lib.hid (show Pair (w7.drewN nq) w.heap.size b (.slice VA l.length vc) l from ⟨P7.out.s, P7.out.r, P7.out.S.drewN nq, P7.out.F⟩)
        generalize at2 T.data.toList 2 = heap at *
        go_wp2_with fail
        generalize w7.drewN nq = w8 at *
        go_loop [10, 11] (fun hv iv => ∃ j : Nat, j ≤ l.length ∧ iv = .int .i64 j ∧ hv = .int .i64 ((heap + sumTo l j : Nat) : Int)) (fun _ iv => l.length - (intOf iv).toNat)
        case atStart => exact ⟨0, Nat.zero_le _, rfl, rfl⟩
        case round =>
          obtain ⟨j, hj, rfl, rfl⟩ := hrel
          have hzk := HZK.out j hj
          by_cases hjl : j < l.length
          · obtain ⟨g, rfl, cj⟩ := str_cell P8.out.S j hjl
            have hlj := HLN.out j hjl
            have HSj := Lib.hid (HSUM.out j hjl)
            obtain ⟨R, hR⟩ := ba_of l[j]
            rw [← hR] at cj hlj HSj
            rw [ba_eq] at cj
            have hRl : R.data.toList.length = R.size := by simp
            rw [hRl] at hlj HSj
            have hji : (j : Int) < (l.length : Int) := by omega
            clear hR hRl
            generalize sumTo l j = q at *
            go_wp2
            go_round
            case rel => exact ⟨j + 1, by omega, by go_num, by rw [HSj.out]; go_num⟩
            case measure => simp [intOf]; omega
          · obtain rfl : j = l.length := by omega
            have KSS := Lib.hid (KS.out _ P8.out.S)
            have hz232 := HZ.out
            generalize sumTo l l.length = q at *
            have hzb : (((heap + q : Nat) : Int) == 232) = true := by simp; omega
            have hzc : ((heap : Int) + (q : Int) == 232) = true := by simp; omega
            clear hz232
            go_wp2_with fail
            refine KSS.out.mono ?_
            rintro e w9 ⟨rfl, hb9⟩
            have O9 := Lib.hid (bstep O8.out hb9)
            clear hb9
            go_wp2_with fail
            go_ret
            exact ⟨by first | rfl | simp, O9.out⟩
theorem walk {H : Type} {enc : TypeId × Value → H} {w : World} {base : Nat} {v : Value} {d : DataW H} {ps : List MemPlace} (hok : Value.okWide Try.prog w .any base 29 v) (h : DataW.Trod enc Try.prog w 0 (fun _ => true) true 29 v d ps) :
    Calls Try.prog 6 #[v] w fun e w' => e = .returned (.bool true) ∧ Below w.heap.size w w' := by
  obtain ⟨A, m, c, F, rfl, hm, ha⟩ := acts_of hok h
  exact walk_in A m c F hm ha

set_option maxRecDepth 100000 in
theorem contract (H : Type) (enc : TypeId × Value → H) (W : World) (base : Nat) (args : Array Value) (ds gs : List (DataW H)) (before : List MemPlace)
    (hval0 : ∀ (j : Nat) t v, Try.f6.params[j]? = some t → args[j]? = some v → Value.okWide Try.prog W .any base t v)
    (hW : DataW.Whole enc Try.prog Try.f6.params.toList Rows.slotsCompactSpec.vars false W args.toList ds gs before) :
    Calls Try.prog 6 args W fun e W' => ∃ v, e = .returned v ∧ Rows.slotsCompactSpec.post enc Try.prog Try.f6 false true false false W args v W' := by
  have hval := hval0
  have hW' := hW
  obtain ⟨p, q, hA0, hV, rfl, hfz, hnd⟩ := hW
  have hA : DataW.TrodAll enc Try.prog W 0 (fun _ => true) true Try.f6.params.toList args.toList ds p := hA0
  have hlt : ∀ x ∈ p, x.block < W.heap.size := fun x hx => by simpa using hW'.lt x (List.mem_append_left _ hx)
  rw [Try.params6] at hA hval
  obtain ⟨v0, vs0, d0, ds0, p0, q0, hargs, rfl, rfl, h0, r0⟩ := trodAll_cons hA
  obtain ⟨rfl, rfl, rfl⟩ := trodAll_nil r0
  obtain rfl : args = #[v0] := by cases args; simp_all
  obtain ⟨rfl, rfl⟩ := trodVars_none hV
  refine (walk (hval 0 29 v0 rfl rfl) h0 ).mono fun e W1 ⟨he, hb⟩ => ?_
  subst he
  exact ⟨_, rfl, law_post laidOut hW' rfl (by kernel_rfl) (by rfl) Try.underlying4 rfl hb⟩

set_option maxRecDepth 100000 in
theorem lifted (os : Os) (started : os.Started) (H : Type) (enc : TypeId × Value → H) :
    ReturnsInHanded {} Try.checked os 6 .any (Rows.slotsCompactSpec.pre6 enc Try.prog Try.f6 Rows.slotsCompactRow.domain false) (Rows.slotsCompactSpec.post enc Try.prog Try.f6 false true false false) := by
  refine returnsInHanded_of_change (C := Try.checked) own started (by kernel_rfl) Try.func6
    (ChangeSpec.witness6 (enc := enc) (C := Try.checked) false ⟨#[], #[.slice none 0 0], []⟩ 8 (by kernel_rfl) (by kernel_rfl) (by kernel_rfl) (by kernel_rfl)) ?_
  intro W base args ds gs before hval0 hW hcnd _
  exact contract H enc W base args ds gs before hval0 hW

theorem proved : Rows.SlotsCompactSaid :=
  OpenClaim.holds_of_wide 6 Try.f6 rfl rfl rfl rfl rfl rfl rfl ⟨rfl, rfl, rfl, rfl, rfl⟩ rfl rfl rfl rfl rfl (by kernel_rfl) Try.func6 (by kernel_rfl)
    (of_decide_eq_true (by kernel_rfl)) (by unfold Func.isWrapper; first | (rw [if_pos (by decide +kernel)]; kernel_rfl) | (rw [if_neg (by decide +kernel)]; exact ⟨rfl, rfl⟩))
    (fun os started H enc _ => lifted os started H enc)
#print axioms proved
end Go.Proofs.Yticehnnbjbliaaa.slotsCompact
