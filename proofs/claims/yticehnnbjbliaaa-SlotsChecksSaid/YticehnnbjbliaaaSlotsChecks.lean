/-
  SlotsChecks: for every input the law returns true, and each argument reads behind the call as before. No condition of its own.
-/
import Derived.Test.YticehnnbjbliaaaSlDo2
namespace Go.Proofs.Yticehnnbjbliaaa.slotsChecks
open Go.ChangeShapes Go.WideShapes Go.ChangeAt Go.RowKit
open Go.ChangeMaps (open_string shut_string)
set_option linter.unusedVariables false

open Sl
theorem getF_range {b : List UInt8} (h : Sound b) (i : Int) (hi : ¬ (0 ≤ i ∧ i < ((recs b).length : Int))) : getF b i = ([], 3) := by
  rw [recs_length] at hi
  unfold getF
  rw [if_pos ((checkF_ok b).2 h), if_neg hi]
set_option maxRecDepth 100000 in
set_option maxHeartbeats 4000000 in
theorem walk_bad (b : ByteArray) (i : Int) (r : ByteArray) (w : World) (hb : b.size ≤ 600) (hr : r.size ≤ 400) (h : ¬ Sound b.data.toList) :
    Calls Try.prog 5 #[.string b, .int .i64 i, .string r] w fun e w' => e = .returned (.bool true) ∧ Below w.heap.size w w' := by
  have hc : checkF b.data.toList ≠ 0 := fun e => h ((checkF_ok _).1 e)
  have K1 := Lib.hid (fun w' => rcheck_any b w' (by omega))
  have K2 := Lib.hid (fun w' => all_any b w' (by omega))
  have K3 := Lib.hid (fun w' => get_any b i w' (by omega))
  have K4 := Lib.hid (fun w' => insert_any b r i w' (by omega) (by omega))
  have K5 := Lib.hid (fun w' => delete_any b i w' (by omega))
  have K6 := Lib.hid (fun w' => compact_any b w' (by omega))
  have K7 := Lib.hid (fun w' => check_any b w' (by omega))
  have K8 := Lib.hid (fun w' => len_any b w' (by omega))
  have K9 := Lib.hid (fun w' => room_any b w' (by omega))
  rw [show getF b.data.toList i = ([], checkF b.data.toList) from by unfold getF; rw [if_neg hc]] at K3
  rw [show insG b.data.toList i r.data.toList = ([], checkF b.data.toList) from by unfold insG; rw [if_neg hc]] at K4
  rw [show delG b.data.toList i = ([], checkF b.data.toList) from by unfold delG; rw [if_neg hc]] at K5
  rw [show compactG b.data.toList = ([], checkF b.data.toList) from by unfold compactG; rw [if_neg hc]] at K6
  rw [show lenF b.data.toList = 0 from by unfold lenF; rw [if_neg hc]] at K8
  rw [show roomG b.data.toList = 0 from by unfold roomG; rw [if_neg hc]] at K9
  unfold AllTold at K2
  have hcb : (checkF b.data.toList == 0) = false := by simpa using hc
  have HC := Lib.hid hc
  have b1 : (b.size : Int) ≤ 600 := by omega
  have b2 : (r.size : Int) ≤ 400 := by omega
  have hE : ((⟨#[]⟩ : ByteArray) ++ ⟨#[]⟩ ++ ⟨#[]⟩ ++ ⟨#[]⟩).toList = [] := by rw [bytes_toList]; rfl
  clear h hc
  generalize checkF b.data.toList = q at *
  go_enter Try.func5, Try.ntmps5
  go_wp2_with fail
  refine (K1.out _).mono ?_
  rintro e w1 ⟨rfl, hb1⟩
  have O := Lib.hid hb1
  clear hb1
  go_wp2_with fail
  refine (K2.out _).mono ?_
  rintro e w2 ⟨v, rfl, hb2, -, hv⟩
  obtain rfl : v = .slice none 0 0 := hv.elim (fun h => absurd h.1 HC.out) (fun h => h.2)
  have O := Lib.hid (bstep O.out hb2)
  clear hb2 hv
  go_wp2_with fail
  refine (K3.out _).mono ?_
  rintro e w3 ⟨rfl, hb3⟩
  have O := Lib.hid (bstep O.out hb3)
  clear hb3
  go_wp2_with fail
  refine (K4.out _).mono ?_
  rintro e w4 ⟨rfl, hb4⟩
  have O := Lib.hid (bstep O.out hb4)
  clear hb4
  go_wp2_with fail
  refine (K5.out _).mono ?_
  rintro e w5 ⟨rfl, hb5⟩
  have O := Lib.hid (bstep O.out hb5)
  clear hb5
  go_wp2_with fail
  refine (K6.out _).mono ?_
  rintro e w6 ⟨rfl, hb6⟩
  have O := Lib.hid (bstep O.out hb6)
  clear hb6
  go_wp2_with fail
  refine (K7.out _).mono ?_
  rintro e w7 ⟨rfl, hb7⟩
  have O := Lib.hid (bstep O.out hb7)
  clear hb7
  go_wp2_with fail
  refine (awake_any _).mono ?_
  rintro e w8 ⟨rfl, hb8⟩
  have O := Lib.hid (bstep O.out hb8)
  clear hb8
  go_wp2_with fail
  refine (K8.out _).mono ?_
  rintro e w9 ⟨rfl, hb9⟩
  have O := Lib.hid (bstep O.out hb9)
  clear hb9
  go_wp2_with fail
  refine (K9.out _).mono ?_
  rintro e w10 ⟨rfl, hb10⟩
  have O := Lib.hid (bstep O.out hb10)
  clear hb10
  go_wp2_with fail
  go_ret
  exact ⟨by first | rfl | simp, O.out⟩
set_option maxRecDepth 100000 in
set_option maxHeartbeats 8000000 in
theorem walk_good (b : ByteArray) (i : Int) (r : ByteArray) (w : World) (hr : r.size ≤ 400) (h : Sound b.data.toList) :
    Calls Try.prog 5 #[.string b, .int .i64 i, .string r] w fun e w' => e = .returned (.bool true) ∧ Below w.heap.size w w' := by
  have hsz : b.size = 232 := by have := h.len; simpa using this
  have hrl : r.data.toList.length = r.size := by simp
  have hc := (checkF_ok _).2 h
  obtain ⟨l, hl⟩ : ∃ l, recs b.data.toList = l := ⟨_, rfl⟩
  have hmany := recs_many h
  have K1 := Lib.hid (fun w' => rcheck_any b w' (by omega))
  have K2 := Lib.hid (fun w' => all_any b w' (by omega))
  have K3 := Lib.hid (fun w' => get_any b i w' (by omega))
  have K4 := Lib.hid (fun w' => insert_any b r i w' (by omega) (by omega))
  have K5 := Lib.hid (fun w' => delete_any b i w' (by omega))
  have K6 := Lib.hid (fun w' => compact_any b w' (by omega))
  have K7 := Lib.hid (fun w' => check_any b w' (by omega))
  have K8 := Lib.hid (fun w' => rall_any b w' h)
  have hrn := recs_length b.data.toList
  rw [← hrn, hl] at K8
  unfold AllTold at K2
  rw [hc, ← hrn, hl] at K2
  rw [hc] at K1 K7
  obtain ⟨s1, r1, -, -⟩ := h.compact
  obtain ⟨P, hP⟩ := ba_of (compactF b.data.toList)
  rw [compactG_ok h, ← hP, ba_eq] at K6
  rw [← hP] at s1 r1
  rw [hl] at r1 hmany
  have HPC := Lib.hid (fun (w' : World) (v : Value) (S : Slc w' 9 1 v l.length (strs l)) => samep_any P s1 r1 rfl S)
  -- get, insert, delete: what they tell
  obtain ⟨G, hG⟩ := ba_of (getF b.data.toList i).1
  obtain ⟨I, hI⟩ := ba_of (insG b.data.toList i r.data.toList).1
  obtain ⟨D, hD⟩ := ba_of (delG b.data.toList i).1
  rw [← hG, ba_eq] at K3
  rw [← hI, ba_eq] at K4
  rw [← hD, ba_eq] at K5
  have HDEL := Lib.hid (show ∀ (j : Nat) (hj : j < l.length), i = j → (getF b.data.toList i).2 = 0 ∧ (∀ hh : j < l.length, l[j] = G.data.toList) ∧ Sound D.data.toList ∧ recs D.data.toList = l.take j ++ l.drop (j + 1) from by
    rintro j hj rfl
    have hj2 : j < (recs b.data.toList).length := by rw [hl]; exact hj
    have e1 := getF_rec h j hj2
    obtain ⟨e2, s2, r2⟩ := delG_ok h j hj2
    rw [e1] at hG
    rw [e2] at hD
    simp only at hG hD
    rw [← hD] at s2 r2
    rw [hl] at r2
    refine ⟨by rw [e1], fun hh => ?_, s2, r2⟩
    rw [hG]
    simp [hl])
  have HINS := Lib.hid (show (∃ j : Nat, i = j ∧ j ≤ l.length ∧ (insG b.data.toList i r.data.toList).2 = 0 ∧ Sound I.data.toList ∧ recs I.data.toList = l.take j ++ r.data.toList :: l.drop j) ∨ (insG b.data.toList i r.data.toList).2 = 11 ∨ (insG b.data.toList i r.data.toList).2 = 3 from by
    by_cases hi : 0 ≤ i ∧ i ≤ ((recs b.data.toList).length : Int)
    · obtain ⟨j, rfl⟩ := Int.eq_ofNat_of_zero_le hi.1
      by_cases hf : (r.data.toList.length : Int) ≤ roomR (recs b.data.toList) - 4
      · obtain ⟨e1, s2, r2⟩ := insG_ok h j r.data.toList hf (by omega)
        rw [e1] at hI
        simp only at hI
        rw [← hI] at s2 r2
        rw [hl] at r2
        exact .inl ⟨j, rfl, by rw [← hl]; omega, by rw [e1], s2, r2⟩
      · exact .inr (.inl (by rw [insG_full' h j r.data.toList (by omega) (by omega)]))
    · exact .inr (.inr (by rw [insG_range h i r.data.toList hi])))
  have b1 : (b.size : Int) ≤ 600 := by omega
  have b2 : (r.size : Int) ≤ 400 := by omega
  clear hG hI hD hP s1 r1 hc hrl hrn hsz h hl
  generalize (getF b.data.toList i).2 = gE at *
  generalize (insG b.data.toList i r.data.toList).2 = iE at *
  generalize (delG b.data.toList i).2 = dE at *
  go_enter Try.func5, Try.ntmps5
  go_wp2_with fail
  refine (K1.out _).mono ?_
  rintro e w1 ⟨rfl, hb1⟩
  have O := Lib.hid hb1
  clear hb1
  go_wp2_with fail
  refine (K2.out _).mono ?_
  rintro e w2 ⟨v, rfl, hb2, -, hv⟩
  have S := hv.elim (fun h => h.2) (fun h => absurd rfl h.1)
  obtain ⟨VA, vc, rfl⟩ := slc_val S
  have S := Lib.hid S
  have O := Lib.hid (bstep O.out hb2)
  clear hb2 hv
  go_wp2_with fail
  refine (K3.out _).mono ?_
  rintro e w3 ⟨rfl, hb3⟩
  have S := Lib.hid (S.out.below hb3)
  have O := Lib.hid (bstep O.out hb3)
  clear hb3
  go_wp2_with fail
  refine (K4.out _).mono ?_
  rintro e w4 ⟨rfl, hb4⟩
  have S := Lib.hid (S.out.below hb4)
  have O := Lib.hid (bstep O.out hb4)
  clear hb4
  go_wp2_with fail
  refine (K5.out _).mono ?_
  rintro e w5 ⟨rfl, hb5⟩
  have S := Lib.hid (S.out.below hb5)
  have O := Lib.hid (bstep O.out hb5)
  clear hb5
  go_wp2_with fail
  refine (K6.out _).mono ?_
  rintro e w6 ⟨rfl, hb6⟩
  have S := Lib.hid (S.out.below hb6)
  have O := Lib.hid (bstep O.out hb6)
  clear hb6
  go_wp2_with fail
  refine (K7.out _).mono ?_
  rintro e w7 ⟨rfl, hb7⟩
  have S := Lib.hid (S.out.below hb7)
  have O := Lib.hid (bstep O.out hb7)
  clear hb7
  go_wp2_with fail
  refine (awake_any _).mono ?_
  rintro e w8 ⟨rfl, hb8⟩
  have S := Lib.hid (S.out.below hb8)
  have O := Lib.hid (bstep O.out hb8)
  clear hb8
  go_wp2_with fail
  refine (K8.out _).mono ?_
  rintro e w9 ⟨u, rfl, U, hb9, -⟩
  obtain ⟨UA, uc', rfl⟩ := slc_val U
  have U := Lib.hid U
  have S := Lib.hid (S.out.below hb9)
  have O := Lib.hid (bstep O.out hb9)
  clear hb9
  clear K1 K2 K3 K4 K5 K6 K7 K8
  -- the end, whatever came
  have FIN := Lib.hid (fun (w' : World) (S' : Slc w' 9 1 (.slice VA l.length vc) l.length (strs l)) (U' : Slc w' 9 1 (.slice UA l.length uc') l.length (strs l)) => same_any S' U' (by omega))
  have hx : (∃ j : Nat, i = j ∧ j < l.length) ∨ i < 0 ∨ (¬ i < 0 ∧ (l.length : Int) ≤ i) := by
    rcases Int.lt_or_le i 0 with h1 | h1
    · exact .inr (.inl h1)
    · rcases Int.lt_or_le i l.length with h2 | h2
      · exact .inl ⟨i.toNat, by omega, by omega⟩
      · exact .inr (.inr ⟨by omega, h2⟩)
  have HPUT := Lib.hid (fun (w' : World) (U' : Slc w' 9 1 (.slice UA l.length uc') l.length (strs l)) (j : Nat) (hj : j ≤ l.length) => rput_any U' j hj (by omega) r)
  rcases hx with ⟨j, rfl, hj⟩ | h1 | ⟨h1, h2⟩
  · obtain ⟨rfl, hgj, s2, r2⟩ := HDEL.out j hj rfl
    obtain ⟨g, rfl, cj⟩ := str_cell U.out j hj
    rw [hgj hj, ba_eq] at cj
    have KT := Lib.hid (rtake_any U.out j hj (by omega))
    have KTS := Lib.hid (fun (w1 w2 : World) (v : Value) (P' : Put1 w1 (l.length - 1) (l.take j ++ l.drop (j + 1)) w2 v) => samep_any D s2 r2 (show (l.take j ++ l.drop (j + 1)).length = l.length - 1 from by simp; omega) P'.1)
    have hji : (j : Int) < (l.length : Int) := by omega
    have hj0 : (0 : Int) ≤ (j : Int) := by omega
    clear hgj s2 r2 HDEL
    go_wp2_with fail
    refine KT.out.mono ?_
    rintro e w10 ⟨v10, rfl, P10⟩
    have S := Lib.hid (S.out.below P10.2.1)
    have U := Lib.hid (U.out.below P10.2.1)
    have O := Lib.hid (bstep O.out P10.2.1)
    have K11 := Lib.hid (KTS.out _ _ _ P10)
    clear P10
    go_wp2_with fail
    refine K11.out.mono ?_
    rintro e w11 ⟨rfl, hb11⟩
    have S := Lib.hid (S.out.below hb11)
    have U := Lib.hid (U.out.below hb11)
    have O := Lib.hid (bstep O.out hb11)
    clear hb11 cj
    rcases HINS.out with ⟨j', hjj, hj', rfl, s3, r3⟩ | rfl | rfl
    · obtain rfl : j = j' := by omega
      have KP := Lib.hid (HPUT.out _ U.out j hj')
      have KPS := Lib.hid (fun (w1 w2 : World) (v : Value) (P' : Put1 w1 (l.length + 1) (l.take j ++ r.data.toList :: l.drop j) w2 v) => samep_any I s3 r3 (show (l.take j ++ r.data.toList :: l.drop j).length = l.length + 1 from by simp; omega) P'.1)
      clear s3 r3 HINS
      go_wp2_with fail
      refine KP.out.mono ?_
      rintro e w12 ⟨v12, rfl, P12⟩
      have S := Lib.hid (S.out.below P12.2.1)
      have U := Lib.hid (U.out.below P12.2.1)
      have O := Lib.hid (bstep O.out P12.2.1)
      have K13 := Lib.hid (KPS.out _ _ _ P12)
      clear P12
      go_wp2_with fail
      refine K13.out.mono ?_
      rintro e w13 ⟨rfl, hb13⟩
      have S := Lib.hid (S.out.below hb13)
      have U := Lib.hid (U.out.below hb13)
      have O := Lib.hid (bstep O.out hb13)
      clear hb13
      have KF := Lib.hid (FIN.out _ S.out U.out)
      go_wp2_with fail
      refine KF.out.mono ?_
      rintro e w14 ⟨rfl, hb14⟩
      have U := Lib.hid (U.out.below hb14)
      have O := Lib.hid (bstep O.out hb14)
      have KL := Lib.hid (HPC.out _ _ U.out)
      clear hb14
      go_wp2_with fail
      refine KL.out.mono ?_
      rintro e w15 ⟨rfl, hb15⟩
      have O := Lib.hid (bstep O.out hb15)
      clear hb15
      go_wp2_with fail
      go_ret
      exact ⟨by first | rfl | simp, O.out⟩
    · have KF := Lib.hid (FIN.out _ S.out U.out)
      go_wp2_with fail
      refine KF.out.mono ?_
      rintro e w14 ⟨rfl, hb14⟩
      have U := Lib.hid (U.out.below hb14)
      have O := Lib.hid (bstep O.out hb14)
      have KL := Lib.hid (HPC.out _ _ U.out)
      clear hb14
      go_wp2_with fail
      refine KL.out.mono ?_
      rintro e w15 ⟨rfl, hb15⟩
      have O := Lib.hid (bstep O.out hb15)
      clear hb15
      go_wp2_with fail
      go_ret
      exact ⟨by first | rfl | simp, O.out⟩
    · have KF := Lib.hid (FIN.out _ S.out U.out)
      go_wp2_with fail
      refine KF.out.mono ?_
      rintro e w14 ⟨rfl, hb14⟩
      have U := Lib.hid (U.out.below hb14)
      have O := Lib.hid (bstep O.out hb14)
      have KL := Lib.hid (HPC.out _ _ U.out)
      clear hb14
      go_wp2_with fail
      refine KL.out.mono ?_
      rintro e w15 ⟨rfl, hb15⟩
      have O := Lib.hid (bstep O.out hb15)
      clear hb15
      go_wp2_with fail
      go_ret
      exact ⟨by first | rfl | simp, O.out⟩
  · rcases HINS.out with ⟨j', hjj, hj', -, -, -⟩ | rfl | rfl
    · omega
    · have KF := Lib.hid (FIN.out _ S.out U.out)
      go_wp2_with fail
      refine KF.out.mono ?_
      rintro e w14 ⟨rfl, hb14⟩
      have U := Lib.hid (U.out.below hb14)
      have O := Lib.hid (bstep O.out hb14)
      have KL := Lib.hid (HPC.out _ _ U.out)
      clear hb14
      go_wp2_with fail
      refine KL.out.mono ?_
      rintro e w15 ⟨rfl, hb15⟩
      have O := Lib.hid (bstep O.out hb15)
      clear hb15
      go_wp2_with fail
      go_ret
      exact ⟨by first | rfl | simp, O.out⟩
    · have KF := Lib.hid (FIN.out _ S.out U.out)
      go_wp2_with fail
      refine KF.out.mono ?_
      rintro e w14 ⟨rfl, hb14⟩
      have U := Lib.hid (U.out.below hb14)
      have O := Lib.hid (bstep O.out hb14)
      have KL := Lib.hid (HPC.out _ _ U.out)
      clear hb14
      go_wp2_with fail
      refine KL.out.mono ?_
      rintro e w15 ⟨rfl, hb15⟩
      have O := Lib.hid (bstep O.out hb15)
      clear hb15
      go_wp2_with fail
      go_ret
      exact ⟨by first | rfl | simp, O.out⟩
  · rcases HINS.out with ⟨j', rfl, hj', rfl, s3, r3⟩ | rfl | rfl
    · obtain rfl : j' = l.length := by omega
      have KP := Lib.hid (HPUT.out _ U.out l.length hj')
      have KPS := Lib.hid (fun (w1 w2 : World) (v : Value) (P' : Put1 w1 (l.length + 1) (l.take l.length ++ r.data.toList :: l.drop l.length) w2 v) => samep_any I s3 r3 (show (l.take l.length ++ r.data.toList :: l.drop l.length).length = l.length + 1 from by simp) P'.1)
      clear s3 r3 HINS
      go_wp2_with fail
      refine KP.out.mono ?_
      rintro e w12 ⟨v12, rfl, P12⟩
      have S := Lib.hid (S.out.below P12.2.1)
      have U := Lib.hid (U.out.below P12.2.1)
      have O := Lib.hid (bstep O.out P12.2.1)
      have K13 := Lib.hid (KPS.out _ _ _ P12)
      clear P12
      go_wp2_with fail
      refine K13.out.mono ?_
      rintro e w13 ⟨rfl, hb13⟩
      have S := Lib.hid (S.out.below hb13)
      have U := Lib.hid (U.out.below hb13)
      have O := Lib.hid (bstep O.out hb13)
      clear hb13
      have KF := Lib.hid (FIN.out _ S.out U.out)
      go_wp2_with fail
      refine KF.out.mono ?_
      rintro e w14 ⟨rfl, hb14⟩
      have U := Lib.hid (U.out.below hb14)
      have O := Lib.hid (bstep O.out hb14)
      have KL := Lib.hid (HPC.out _ _ U.out)
      clear hb14
      go_wp2_with fail
      refine KL.out.mono ?_
      rintro e w15 ⟨rfl, hb15⟩
      have O := Lib.hid (bstep O.out hb15)
      clear hb15
      go_wp2_with fail
      go_ret
      exact ⟨by first | rfl | simp, O.out⟩
    · have KF := Lib.hid (FIN.out _ S.out U.out)
      go_wp2_with fail
      refine KF.out.mono ?_
      rintro e w14 ⟨rfl, hb14⟩
      have U := Lib.hid (U.out.below hb14)
      have O := Lib.hid (bstep O.out hb14)
      have KL := Lib.hid (HPC.out _ _ U.out)
      clear hb14
      go_wp2_with fail
      refine KL.out.mono ?_
      rintro e w15 ⟨rfl, hb15⟩
      have O := Lib.hid (bstep O.out hb15)
      clear hb15
      go_wp2_with fail
      go_ret
      exact ⟨by first | rfl | simp, O.out⟩
    · have KF := Lib.hid (FIN.out _ S.out U.out)
      go_wp2_with fail
      refine KF.out.mono ?_
      rintro e w14 ⟨rfl, hb14⟩
      have U := Lib.hid (U.out.below hb14)
      have O := Lib.hid (bstep O.out hb14)
      have KL := Lib.hid (HPC.out _ _ U.out)
      clear hb14
      go_wp2_with fail
      refine KL.out.mono ?_
      rintro e w15 ⟨rfl, hb15⟩
      have O := Lib.hid (bstep O.out hb15)
      clear hb15
      go_wp2_with fail
      go_ret
      exact ⟨by first | rfl | simp, O.out⟩
set_option maxRecDepth 100000 in
set_option maxHeartbeats 1000000 in
theorem walk (b : ByteArray) (hb : b.size ≤ maxLen) (i : Int) (_wi : (Lit.int .i64 i).wf = true) (r : ByteArray) (hr : r.size ≤ maxLen) (w : World) :
    Calls Try.prog 5 #[.string b, .int .i64 i, .string r] w fun e w' => e = .returned (.bool true) ∧ Below w.heap.size w w' := by
  unfold maxLen at hb hr
  by_cases h1 : b.size ≤ 600 ∧ r.size ≤ 400
  · by_cases h : Sound b.data.toList
    · exact walk_good b i r w h1.2 h
    · exact walk_bad b i r w h1.1 h1.2 h
  · have hx : 600 < b.size ∨ (b.size ≤ 600 ∧ 400 < r.size) := by omega
    clear h1
    rcases hx with h1 | ⟨h1, h2⟩
    all_goals
      go_enter Try.func5, Try.ntmps5
      go_wp2_with fail
      refine (awake_any _).mono ?_
      rintro e w8 ⟨rfl, hb8⟩
      have O := Lib.hid hb8
      clear hb8
      go_wp2_with fail
      go_ret
      exact ⟨rfl, O.out⟩

set_option maxRecDepth 100000 in
theorem contract (H : Type) (enc : TypeId × Value → H) (W : World) (base : Nat) (args : Array Value) (ds gs : List (DataW H)) (before : List MemPlace)
    (hval0 : ∀ (j : Nat) t v, Try.f5.params[j]? = some t → args[j]? = some v → Value.okWide Try.prog W .any base t v)
    (hW : DataW.Whole enc Try.prog Try.f5.params.toList Rows.slotsChecksSpec.vars false W args.toList ds gs before) :
    Calls Try.prog 5 args W fun e W' => ∃ v, e = .returned v ∧ Rows.slotsChecksSpec.post enc Try.prog Try.f5 false true false false W args v W' := by
  have hval := hval0
  have hW' := hW
  obtain ⟨p, q, hA0, hV, rfl, hfz, hnd⟩ := hW
  have hA : DataW.TrodAll enc Try.prog W 0 (fun _ => true) true Try.f5.params.toList args.toList ds p := hA0
  have hlt : ∀ x ∈ p, x.block < W.heap.size := fun x hx => by simpa using hW'.lt x (List.mem_append_left _ hx)
  rw [Try.params5] at hA hval
  obtain ⟨v0, vs0, d0, ds0, p0, q0, hargs, rfl, rfl, h0, r0⟩ := trodAll_cons hA
  obtain ⟨v1, vs1, d1, ds1, p1, q1, rfl, rfl, rfl, h1, r1⟩ := trodAll_cons r0
  obtain ⟨v2, vs2, d2, ds2, p2, q2, rfl, rfl, rfl, h2, r2⟩ := trodAll_cons r1
  obtain ⟨rfl, rfl, rfl⟩ := trodAll_nil r2
  obtain rfl : args = #[v0, v1, v2] := by cases args; simp_all
  obtain ⟨rfl, rfl⟩ := trodVars_none hV
  obtain ⟨s0, rfl, rfl, rfl, hs0⟩ := open_string Try.underlying9 (hval 0 9 v0 rfl rfl) h0
  obtain ⟨a1, rfl, rfl, rfl, w1⟩ := open_int Try.underlying3 (hval 1 3 v1 rfl rfl) h1
  obtain ⟨s2, rfl, rfl, rfl, hs2⟩ := open_string Try.underlying9 (hval 2 9 v2 rfl rfl) h2
  refine (walk s0 hs0 a1 w1 s2 hs2 W).mono fun e W1 ⟨he, hb⟩ => ?_
  subst he
  exact ⟨_, rfl, law_post laidOut hW' rfl (by kernel_rfl) (by rfl) Try.underlying4 rfl hb⟩

set_option maxRecDepth 100000 in
theorem lifted (os : Os) (started : os.Started) (H : Type) (enc : TypeId × Value → H) :
    ReturnsInHanded {} Try.checked os 5 .any (Rows.slotsChecksSpec.pre6 enc Try.prog Try.f5 Rows.slotsChecksRow.domain false) (Rows.slotsChecksSpec.post enc Try.prog Try.f5 false true false false) := by
  refine returnsInHanded_of_change (C := Try.checked) own started (by kernel_rfl) Try.func5
    (ChangeSpec.witness6 (enc := enc) (C := Try.checked) false ⟨#[], #[.string .empty, .int .i64 0, .string .empty], []⟩ 8 (by kernel_rfl) (by kernel_rfl) (by kernel_rfl) (by kernel_rfl)) ?_
  intro W base args ds gs before hval0 hW hcnd _
  exact contract H enc W base args ds gs before hval0 hW

theorem proved : Rows.SlotsChecksSaid :=
  OpenClaim.holds_of_wide 5 Try.f5 rfl rfl rfl rfl rfl rfl rfl ⟨rfl, rfl, rfl, rfl, rfl⟩ rfl rfl rfl rfl rfl (by kernel_rfl) Try.func5 (by kernel_rfl)
    (of_decide_eq_true (by kernel_rfl)) (by unfold Func.isWrapper; first | (rw [if_pos (by decide +kernel)]; kernel_rfl) | (rw [if_neg (by decide +kernel)]; exact ⟨rfl, rfl⟩))
    (fun os started H enc _ => lifted os started H enc)
#print axioms proved
end Go.Proofs.Yticehnnbjbliaaa.slotsChecks
