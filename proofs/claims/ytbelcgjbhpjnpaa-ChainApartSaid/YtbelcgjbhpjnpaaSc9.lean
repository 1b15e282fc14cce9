/- chain's laws: None, Full. -/
import Derived.Test.YtbelcgjbhpjnpaaSc8
namespace Go.Proofs.Ytbelcgjbhpjnpaa.Sh
open Go.RowKit Pk Dk Pg
attribute [local go_sem ↓] Go.wp_at_zero Go.wp_at_succ
set_option maxRecDepth 100000 in
set_option maxHeartbeats 4000000 in
theorem none_any (s : ByteArray) (first n : Int) (hn : -9223372036854775808 ≤ n) (w : World) :
    Calls Try.prog 4 #[.string s, .int .i64 first, .int .i64 n] w fun e w' => e = .returned (.bool true) ∧ Below w.heap.size w w' := by
  have K1 := Lib.hid (cput_nil w s)
  have K2 := Lib.hid (fun W => cget_nil W first)
  have K3 := Lib.hid (fun W => cpages_nil W first)
  have K4 := Lib.hid awake_any
  have K5 := Lib.hid (fun W => cdrop_nil W first)
  have K6 := Lib.hid (cneed_any (min n 100000) (by omega))
  have K7 := Lib.hid (rneed_any (min n 100000) (by omega) (by omega))
  generalize cneedF (min n 100000) = R at *
  have HM : min n 100000 = if 100000 < n then 100000 else n := by split <;> omega
  rw [HM] at K6 K7
  clear HM
  by_cases h : 100000 < n
  all_goals
    first | rw [if_pos h] at K6 K7 | rw [if_neg h] at K6 K7
    go_enter Try.func4, Try.ntmps4
    go_wp2_with fail
    refine K1.out.mono ?_
    rintro e w1 ⟨rfl, hb1⟩
    have H1 := Lib.hid hb1
    clear hb1
    go_wp2_with fail
    refine (K2.out _).mono ?_
    rintro e w2 ⟨rfl, rfl⟩
    go_wp2_with fail
    refine (K3.out _).mono ?_
    rintro e w2 ⟨rfl, rfl⟩
    go_wp2_with fail
    refine (K4.out _).mono ?_
    rintro e w3 ⟨rfl, hb3⟩
    have H3 := Lib.hid (bstep H1.out hb3)
    clear hb3
    go_wp2_with fail
    refine (K5.out _).mono ?_
    rintro e w4 ⟨rfl, rfl⟩
    go_wp2_with fail
    refine (K6.out _).mono ?_
    rintro e w4 ⟨rfl, rfl⟩
    go_wp2_with fail
    refine (K7.out _).mono ?_
    rintro e w4 ⟨rfl, rfl⟩
    go_wp2_with fail
    go_ret
    exact ⟨by first | rfl | simp, H3.out⟩
set_option maxRecDepth 100000 in
set_option maxHeartbeats 4000000 in
theorem full_any (pages n : Nat) (hp : pages < 256) (hn : n < 65536) (w : World) :
    Calls Try.prog 6 #[.int .u8 (pages : Nat), .int .u16 (n : Nat)] w fun e w' => e = .returned (.bool true) ∧ Below w.heap.size w w' := by
  have hk8 : (pages : Int).tmod 8 = ((pages % 8 : Nat) : Int) := by rw [Int.tmod_eq_emod_of_nonneg (by omega)]; omega
  have hn1 : (n : Int).tmod 1024 = ((n % 1024 : Nat) : Int) := by rw [Int.tmod_eq_emod_of_nonneg (by omega)]; omega
  have hkl : pages % 8 < 8 := Nat.mod_lt _ (by omega)
  have hnl : n % 1024 < 1024 := Nat.mod_lt _ (by omega)
  obtain ⟨k, hk⟩ : ∃ k, pages % 8 = k := ⟨_, rfl⟩
  obtain ⟨m, hm⟩ : ∃ m, n % 1024 = m := ⟨_, rfl⟩
  rw [hk] at hk8 hkl
  rw [hm] at hn1 hnl
  have u1 : IntKind.u8.wrap (k : Int) = (k : Int) := IntWalk.u8_in _ (by omega)
  have u2 : IntKind.i64.wrap (k : Int) = (k : Int) := IntWalk.i64_in _ (by omega)
  have u3 : IntKind.i64.wrap ((k : Int) + 1) = ((k + 1 : Nat) : Int) := by rw [show (k : Int) + 1 = ((k + 1 : Nat) : Int) by omega]; exact IntWalk.i64_in _ (by omega)
  have u4 : IntKind.i64.wrap (m : Int) = (m : Int) := IntWalk.i64_in _ (by omega)
  have KB := Lib.hid (begun_any w 2 (k + 1) (by omega) (by omega) (by omega) (by omega))
  have KA := Lib.hid awake_any
  have KL := Lib.hid (fun (W : World) => long_any ⟨#[120]⟩ m W (by show 1 ≤ 100000; omega) (by omega))
  obtain ⟨V, hV⟩ : ∃ V : ByteArray, V = ⟨(longL (⟨#[120]⟩ : ByteArray).data.toList m).toArray⟩ := ⟨_, rfl⟩
  rw [← hV] at KL
  have hvl : V.data.toList.length ≤ 1024 := by rw [hV]; show (longL _ m).length ≤ 1024; rw [longL_length]; show max 1 m ≤ 1024; omega
  have hvs : V.size = V.data.toList.length := by simp
  obtain ⟨s1, s2, s3, s4⟩ := start_fresh (k + 1)
  have KC := Lib.hid (fun (W : World) (pb sb : Nat) (F : List Nat) (a : St) (j : Int) (hW : AtQ W pb sb F a j) => qcount_any hW)
  have KS := Lib.hid (fun (W : World) (pb sb : Nat) (F : List Nat) (a : St) (j : Int) (hW : AtQ W pb sb F a j) => qstore_any hW)
  have KG := Lib.hid (fun (W : World) (pb sb : Nat) (F : List Nat) (a : St) (j : Int) (hW : AtQ W pb sb F a j) => qpages_any hW)
  have KP := Lib.hid (fun (W : World) (pb sb : Nat) (F : List Nat) (hW : AtQ W pb sb F (St.start (k + 1)) 10) => cput_any hW V (by omega) (by omega))
  have KN := Lib.hid (cneed_any (V.size : Nat) (by omega))
  have hneed : 1 ≤ cneedF (V.size : Nat) := by unfold cneedF; omega
  obtain ⟨nd, hnd⟩ := Int.eq_ofNat_of_zero_le (show 0 ≤ cneedF (V.size : Nat) by omega)
  rw [hnd] at KN
  have hnd2 : (cneedF V.data.toList.length).toNat = nd := by rw [← hvs, hnd]; omega
  by_cases hc : nd ≤ k + 1
  · obtain ⟨a', p, L, r1, r2, r3, r4, r5, r6, r7, r8, _⟩ := cput_good (v := V.data.toList) s1 hvl (by rw [hnd2, s2]; exact hc) (by omega)
    rw [r3, hnd2, s2] at r7
    rw [r1] at KP
    have hfr : a'.free = k + 1 - nd := by omega
    have hfI : ((a'.free : Nat) : Int) = (k : Int) + 1 - (nd : Int) := by omega
    have u5 : IntKind.i64.wrap ((k : Int) + 1 - (nd : Int)) = (k : Int) + 1 - (nd : Int) := IntWalk.i64_in _ (by omega)
    have hcI : ¬ (k : Int) + 1 < (nd : Int) := by omega
    have hsf : (((St.start (k + 1)).free : Nat) : Int) = (k : Int) + 1 := by omega
    clear hk hm hV hvs hnd hnd2 hneed s1 s3 s4 hvl
    have s2 := Lib.hid s2
    clear r1 r2 r3 r4 r5 r6 r7 r8 hfr
    unfold pp sp at *
    go_enter Try.func6, Try.ntmps6
    go_wp2_with fail
    refine KB.out.mono ?_
    rintro e w1 ⟨pb, sb, rb, F, rfl, A1, hb1, hF⟩
    have H1 := Lib.hid (show AtQ w1 pb sb F (St.start (k + 1)) 10 ∧ Below w.heap.size w w1 ∧ ∀ g ∈ F, w.heap.size ≤ g from ⟨A1, hb1, hF⟩)
    clear A1 hb1 hF
    go_wp2_with fail
    refine (KA.out _).mono ?_
    rintro e w2 ⟨rfl, hb2⟩
    have H2 := Lib.hid (show AtQ w2 pb sb F (St.start (k + 1)) 10 ∧ Below w.heap.size w w2 from ⟨H1.out.1.below hb2, bstep H1.out.2.1 hb2⟩)
    clear hb2
    go_wp2_with fail
    refine (KL.out _).mono ?_
    rintro e w3 ⟨rfl, hb3⟩
    have H3 := Lib.hid (show AtQ w3 pb sb F (St.start (k + 1)) 10 ∧ Below w.heap.size w w3 from ⟨H2.out.1.below hb3, bstep H2.out.2 hb3⟩)
    clear hb3
    go_wp2_with fail
    refine (KS.out w3 pb sb F _ 10 H3.out.1).mono ?_
    rintro e w4 ⟨rfl, rfl⟩
    go_wp2_with fail
    refine (KC.out w3 pb sb F _ 10 H3.out.1).mono ?_
    rintro e w5 ⟨⟨x1, x2, x3, rfl⟩, hb5⟩
    have H5 := Lib.hid (show AtQ w5 pb sb F (St.start (k + 1)) 10 ∧ Below w.heap.size w w5 from ⟨H3.out.1.below hb5, bstep H3.out.2 hb5⟩)
    clear hb5
    go_wp2_with fail
    refine (KP.out w5 pb sb F H5.out.1).mono ?_
    rintro e w7 ⟨rfl, q7⟩
    obtain ⟨F7, A7, b7, f7⟩ := postQ_new q7 H5.out.2.size H1.out.2.2
    have H7 := Lib.hid (show AtQ w7 pb sb F7 a' 30 ∧ Below w.heap.size w w7 ∧ ∀ g ∈ F7, w.heap.size ≤ g from ⟨A7, H5.out.2.trans b7, f7⟩)
    clear q7 A7 b7 f7
    go_wp2_with fail
    refine (KS.out w7 pb sb F7 a' 30 H7.out.1).mono ?_
    rintro e w8 ⟨rfl, rfl⟩
    go_wp2_with fail
    refine (KC.out w7 pb sb F7 a' 30 H7.out.1).mono ?_
    rintro e w9 ⟨⟨y1, y2, y3, rfl⟩, hb9⟩
    have H9B := Lib.hid (show AtQ w9 pb sb F7 a' 30 ∧ Below w.heap.size w w9 from ⟨H7.out.1.below hb9, bstep H7.out.2.1 hb9⟩)
    have H9 := Lib.hid H9B.out.2
    clear hb9
    go_wp2_with fail
    refine (KN.out _).mono ?_
    rintro e w10 ⟨rfl, rfl⟩
    go_wp2_with fail
    refine (KN.out _).mono ?_
    rintro e w11 ⟨rfl, rfl⟩
    go_wp2_with fail
    go_ret
    exact ⟨by first | rfl | simp, H9.out⟩
  · obtain ⟨a', r1, r2, r3, r4, r5⟩ := cput_full (v := V.data.toList) s1 hvl (by rw [hnd2, s2]; omega) (by omega)
    rw [r1] at KP
    have hfr : a'.free = (St.start (k + 1)).free := free_of r4 r5 r3
    have hfI : ((a'.free : Nat) : Int) = (k : Int) + 1 := by omega
    have hcI : (k : Int) + 1 < (nd : Int) := by omega
    have hsf : (((St.start (k + 1)).free : Nat) : Int) = (k : Int) + 1 := by omega
    have hpg : a'.pages.length = 0 := by rw [pages_length r2, r3]; exact s4
    clear hk hm hV hvs hnd hnd2 hneed s1 s3 s4 hvl
    have s2 := Lib.hid s2
    clear r1 r2 r3 r4 r5 hfr
    unfold pp sp at *
    go_enter Try.func6, Try.ntmps6
    go_wp2_with fail
    refine KB.out.mono ?_
    rintro e w1 ⟨pb, sb, rb, F, rfl, A1, hb1, hF⟩
    have H1 := Lib.hid (show AtQ w1 pb sb F (St.start (k + 1)) 10 ∧ Below w.heap.size w w1 ∧ ∀ g ∈ F, w.heap.size ≤ g from ⟨A1, hb1, hF⟩)
    clear A1 hb1 hF
    go_wp2_with fail
    refine (KA.out _).mono ?_
    rintro e w2 ⟨rfl, hb2⟩
    have H2 := Lib.hid (show AtQ w2 pb sb F (St.start (k + 1)) 10 ∧ Below w.heap.size w w2 from ⟨H1.out.1.below hb2, bstep H1.out.2.1 hb2⟩)
    clear hb2
    go_wp2_with fail
    refine (KL.out _).mono ?_
    rintro e w3 ⟨rfl, hb3⟩
    have H3 := Lib.hid (show AtQ w3 pb sb F (St.start (k + 1)) 10 ∧ Below w.heap.size w w3 from ⟨H2.out.1.below hb3, bstep H2.out.2 hb3⟩)
    clear hb3
    go_wp2_with fail
    refine (KS.out w3 pb sb F _ 10 H3.out.1).mono ?_
    rintro e w4 ⟨rfl, rfl⟩
    go_wp2_with fail
    refine (KC.out w3 pb sb F _ 10 H3.out.1).mono ?_
    rintro e w5 ⟨⟨x1, x2, x3, rfl⟩, hb5⟩
    have H5 := Lib.hid (show AtQ w5 pb sb F (St.start (k + 1)) 10 ∧ Below w.heap.size w w5 from ⟨H3.out.1.below hb5, bstep H3.out.2 hb5⟩)
    clear hb5
    go_wp2_with fail
    refine (KP.out w5 pb sb F H5.out.1).mono ?_
    rintro e w7 ⟨rfl, q7⟩
    obtain ⟨F7, A7, b7, f7⟩ := postQ_new q7 H5.out.2.size H1.out.2.2
    have H7 := Lib.hid (show AtQ w7 pb sb F7 a' 30 ∧ Below w.heap.size w w7 ∧ ∀ g ∈ F7, w.heap.size ≤ g from ⟨A7, H5.out.2.trans b7, f7⟩)
    clear q7 A7 b7 f7
    go_wp2_with fail
    refine (KS.out w7 pb sb F7 a' 30 H7.out.1).mono ?_
    rintro e w8 ⟨rfl, rfl⟩
    go_wp2_with fail
    refine (KC.out w7 pb sb F7 a' 30 H7.out.1).mono ?_
    rintro e w9 ⟨⟨y1, y2, y3, rfl⟩, hb9⟩
    have H9B := Lib.hid (show AtQ w9 pb sb F7 a' 30 ∧ Below w.heap.size w w9 from ⟨H7.out.1.below hb9, bstep H7.out.2.1 hb9⟩)
    have H9 := Lib.hid H9B.out.2
    clear hb9
    go_wp2_with fail
    refine (KN.out _).mono ?_
    rintro e w10 ⟨rfl, rfl⟩
    go_wp2_with fail
    refine (KS.out w9 pb sb F7 a' 30 H9B.out.1).mono ?_
    rintro e w11 ⟨rfl, rfl⟩
    go_wp2_with fail
    refine (KG.out w9 pb sb F7 a' 30 H9B.out.1).mono ?_
    rintro e w12 ⟨A, c, rfl, S, hb12⟩
    have H12 := Lib.hid (bstep H9.out hb12)
    clear S hb12
    go_wp2_with fail
    go_ret
    exact ⟨by first | rfl | simp, H12.out⟩
end Go.Proofs.Ytbelcgjbhpjnpaa.Sh
