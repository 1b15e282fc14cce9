/- what the statements of layer 17 share: awake, same. -/
import Derived.Test.YticehnnbjbliaaaSlRef4
namespace Go.Proofs.Yticehnnbjbliaaa.Sl
open Go.RowKit
attribute [local go_sem ↓] exec_app

theorem ba_eq (T : ByteArray) : (⟨T.data.toList.toArray⟩ : ByteArray) = T := by simp
theorem ba_of (b : List UInt8) : ∃ T : ByteArray, T.data.toList = b := ⟨⟨b.toArray⟩, by simp⟩
theorem getF_rec {b : List UInt8} (h : Sound b) (i : Nat) (hi : i < (recs b).length) : getF b i = ((recs b)[i], 0) := by
  have hn : i < at2 b 0 := by rw [← recs_length]; exact hi
  unfold getF
  rw [if_pos ((checkF_ok b).2 h), if_pos ⟨by omega, by omega⟩, Int.toNat_natCast]
  simp [recs, slots]
theorem lenF_rec {b : List UInt8} (h : Sound b) : lenF b = ((recs b).length : Nat) := by
  unfold lenF
  rw [if_pos ((checkF_ok b).2 h), recs_length]
theorem roomG_rec {b : List UInt8} (h : Sound b) : roomG b = roomR (recs b) := by
  unfold roomG
  rw [if_pos ((checkF_ok b).2 h), room_eq h]
theorem recs_small {b : List UInt8} (h : Sound b) : ∀ r ∈ recs b, r.length ≤ 232 := by
  intro r hr
  simp only [recs, List.mem_map] at hr
  obtain ⟨x, hx, rfl⟩ := hr
  have := (h.fit.lies x hx).2
  rw [rec1_length (by rw [h.len]; omega)]
  omega
theorem recs_many {b : List UInt8} (h : Sound b) : (recs b).length ≤ 57 := by
  rw [recs_length]
  have := h.head
  have := h.heap
  omega
/-- what 'same' finds of a sound payload -/
theorem samep_any {w : World} (s : ByteArray) {v : Value} {l : List (List UInt8)} {n : Nat} (hS : Sound s.data.toList) (hr : recs s.data.toList = l) (hn : l.length = n) (S : Slc w 9 1 v n (strs l)) :
    Calls Try.prog 12 #[.string s, v] w fun e w' => e = .returned (.bool true) ∧ Below w.heap.size w w' := by
  have hc := (checkF_ok _).2 hS
  have hl2 : s.size = 232 := by have := hS.len; simpa using this
  have hm := recs_many hS
  have hsm := recs_small hS
  have hln := lenF_rec hS
  have hro := roomG_rec hS
  have hrl := recs_length s.data.toList
  rw [hr] at hm hsm hln hro hrl
  rw [hn] at hln hrl hm
  obtain ⟨A, c, rfl⟩ := slc_val S
  have KA := Lib.hid (all_any s w (by omega))
  have KC := Lib.hid (fun w' => rcheck_any s w' (by omega))
  have KR := Lib.hid (fun w' => rall_any s w' hS)
  have KM := Lib.hid (fun w' => room_any s w' (by omega))
  have KL := Lib.hid (fun w' => len_any s w' (by omega))
  rw [hc] at KC
  rw [hr, ← hrl] at KR
  rw [hro] at KM
  rw [hln] at KL
  have HC := Lib.hid hc
  have HR := Lib.hid hr
  have HRL := Lib.hid hrl
  have HS := Lib.hid S
  have HSM := Lib.hid hsm
  have hlo : -1000000 ≤ roomR l ∧ roomR l ≤ 228 := by
    have h1 := hS.sum
    have h2 := hS.heap
    have h3 := hS.head
    have h4 := room_eq hS
    have h5 := roomF_eq hS
    rw [hr] at h4
    constructor
    · omega
    · unfold roomR; omega
  have HRM := Lib.hid (fun (w' : World) (T : Slc w' 9 1 (.slice A n c) n (strs l)) => rroom_any T (by omega) (fun r hr => by have := hsm r hr; omega))
  have HSA := Lib.hid (fun (w' : World) (u : Value) (U : Slc w' 9 1 u n (strs l)) (T : Slc w' 9 1 (.slice A n c) n (strs l)) => same_any U T (by omega))
  unfold AllTold at KA
  rw [hc, hr, ← hrl] at KA
  clear hc hl2 hsm hln hro hrl hr S hn hS
  generalize roomR l = room at *
  obtain ⟨b1, b2⟩ := hlo
  go_enter Try.func12, Try.ntmps12
  go_wp2_with fail
  refine KA.out.mono ?_
  rintro e w1 ⟨u, rfl, hb1, -, hu⟩
  have U1 : Slc w1 9 1 u n (strs l) := hu.elim (fun h => h.2) (fun h => absurd rfl h.1)
  obtain ⟨UA, uc', rfl⟩ := slc_val U1
  have U1 := Lib.hid U1
  have T1 := Lib.hid (HS.out.below hb1)
  have O1 := Lib.hid hb1
  clear hu hb1 HS KA
  go_wp2_with fail
  refine (KC.out _).mono ?_
  rintro e w2 ⟨rfl, hb2⟩
  have U2 := Lib.hid (U1.out.below hb2)
  have T2 := Lib.hid (T1.out.below hb2)
  have O2 := Lib.hid (bstep O1.out hb2)
  have K3 := Lib.hid (HSA.out _ _ U2.out T2.out)
  clear hb2 U1 T1 O1
  go_wp2_with fail
  refine K3.out.mono ?_
  rintro e w3 ⟨rfl, hb3⟩
  have T3 := Lib.hid (T2.out.below hb3)
  have O3 := Lib.hid (bstep O2.out hb3)
  clear hb3 U2 T2 O2 K3
  go_wp2_with fail
  refine (KR.out _).mono ?_
  rintro e w4 ⟨u4, rfl, U4, hb4, -⟩
  obtain ⟨UA4, uc4, rfl⟩ := slc_val U4
  have T4 := Lib.hid (T3.out.below hb4)
  have O4 := Lib.hid (bstep O3.out hb4)
  have K5 := Lib.hid (HSA.out _ _ U4 T4.out)
  clear hb4 T3 O3 U4
  go_wp2_with fail
  refine K5.out.mono ?_
  rintro e w5 ⟨rfl, hb5⟩
  have T5 := Lib.hid (T4.out.below hb5)
  have O5 := Lib.hid (bstep O4.out hb5)
  clear hb5 T4 O4 K5
  go_wp2_with fail
  refine (KM.out _).mono ?_
  rintro e w6 ⟨rfl, hb6⟩
  have T6 := Lib.hid (T5.out.below hb6)
  have O6 := Lib.hid (bstep O5.out hb6)
  have K7 := Lib.hid (HRM.out _ T6.out)
  clear hb6 T5 O5
  go_wp2_with fail
  refine K7.out.mono ?_
  rintro e w7 ⟨rfl, rfl⟩
  go_wp2_with fail
  refine (KL.out _).mono ?_
  rintro e w8 ⟨rfl, hb8⟩
  have O8 := Lib.hid (bstep O6.out hb8)
  clear hb8
  go_wp2_with fail
  go_ret
  exact ⟨by first | rfl | simp, O8.out⟩
theorem insG_ok {b : List UInt8} (h : Sound b) (i : Nat) (r : List UInt8) (hr : (r.length : Int) ≤ roomR (recs b) - 4) (hi : i ≤ (recs b).length) :
    insG b i r = (insF b i r, 0) ∧ Sound (insF b i r) ∧ recs (insF b i r) = (recs b).take i ++ r :: (recs b).drop i := by
  rw [recs_length] at hi
  rw [← room_eq h] at hr
  refine ⟨?_, h.insert i r hr hi⟩
  unfold insG
  rw [if_pos ((checkF_ok b).2 h), if_pos ⟨by omega, by omega⟩, if_pos hr, Int.toNat_natCast]
set_option maxRecDepth 100000 in
set_option maxHeartbeats 2000000 in
theorem awake_any (w : World) :
    Calls Try.prog 10 #[] w fun e w' => e = .returned (.bool true) ∧ Below w.heap.size w w' := by
  obtain ⟨T0, h0⟩ := ba_of emptyF
  obtain ⟨s0, r0, -, -⟩ := empty_sound
  obtain ⟨i1, s1, r1⟩ := insG_ok s0 0 [97, 98, 99] (by rw [r0]; decide) (by omega)
  rw [r0] at r1
  simp only [List.take_nil, List.drop_nil, List.nil_append] at r1
  obtain ⟨T1, h1⟩ := ba_of (insF emptyF 0 [97, 98, 99])
  rw [← h1] at s1 r1 i1
  rw [← h0] at i1
  obtain ⟨i2, s2, r2⟩ := insG_ok s1 0 [100] (by rw [r1]; decide) (by omega)
  rw [r1] at r2
  simp only [List.take_zero, List.drop_zero, List.nil_append] at r2
  obtain ⟨T2, h2⟩ := ba_of (insF T1.data.toList 0 [100])
  rw [← h2] at s2 r2 i2
  have z0 : T0.size = 232 := by have := s0.len; rw [← h0] at this; simpa using this
  have z1 : T1.size = 232 := by have := s1.len; simpa using this
  have z2 : T2.size = 232 := by have := s2.len; simpa using this
  have KE := Lib.hid (empty_any w)
  rw [← h0, ba_eq] at KE
  have K1 := Lib.hid (fun w' => insert_any T0 ⟨#[97, 98, 99]⟩ 0 w' (by omega) (by decide))
  rw [show (⟨#[97, 98, 99]⟩ : ByteArray).data.toList = [97, 98, 99] from rfl] at K1
  have i1' : insG T0.data.toList 0 [97, 98, 99] = (T1.data.toList, 0) := i1
  rw [i1', ba_eq] at K1
  have KG := Lib.hid (fun w' => get_any T1 0 w' (by omega))
  have g1 : getF T1.data.toList 0 = ([97, 98, 99], 0) := by
    have := getF_rec s1 0 (by rw [r1]; decide)
    rw [show ((0 : Nat) : Int) = 0 from rfl] at this
    rw [this]
    simp [r1]
  rw [g1] at KG
  have K2 := Lib.hid (fun w' => insert_any T1 ⟨#[100]⟩ 0 w' (by omega) (by decide))
  rw [show (⟨#[100]⟩ : ByteArray).data.toList = [100] from rfl] at K2
  have i2' : insG T1.data.toList 0 [100] = (T2.data.toList, 0) := i2
  rw [i2', ba_eq] at K2
  have KA := Lib.hid (fun w' => all_any T2 w' (by omega))
  have c2 := (checkF_ok _).2 s2
  have n2 : at2 T2.data.toList 0 = 2 := by rw [← recs_length, r2]; rfl
  unfold AllTold at KA
  rw [c2, r2, n2] at KA
  have KM := Lib.hid (fun w' => room_any T2 w' (by omega))
  rw [roomG_rec s2, r2, show roomR [[100], [97, 98, 99]] = 216 from by decide] at KM
  have KL := Lib.hid (fun w' => len_any T2 w' (by omega))
  rw [lenF_rec s2, r2, show (([[100], [97, 98, 99]] : List (List UInt8)).length : Nat) = 2 from rfl] at KL
  clear i1 i2 i1' i2' g1 c2 n2 s0 r0 s1 r1 s2 r2 h0 h1 h2 z0 z1 z2
  go_enter Try.func10, Try.ntmps10
  go_wp2_with fail
  refine KE.out.mono ?_
  rintro e w1 ⟨rfl, hb1⟩
  have O1 := Lib.hid hb1
  clear hb1
  go_wp2_with fail
  refine (K1.out _).mono ?_
  rintro e w2 ⟨rfl, hb2⟩
  have O2 := Lib.hid (bstep O1.out hb2)
  clear hb2 O1
  go_wp2_with fail
  refine (KG.out _).mono ?_
  rintro e w3 ⟨rfl, hb3⟩
  have O3 := Lib.hid (bstep O2.out hb3)
  clear hb3 O2
  go_wp2_with fail
  refine (K2.out _).mono ?_
  rintro e w4 ⟨rfl, hb4⟩
  have O4 := Lib.hid (bstep O3.out hb4)
  clear hb4 O3
  go_wp2_with fail
  refine (KA.out _).mono ?_
  rintro e w5 ⟨u, rfl, hb5, -, hu⟩
  have U5 : Slc w5 9 1 u 2 (strs [[100], [97, 98, 99]]) := hu.elim (fun h => h.2) (fun h => absurd rfl h.1)
  obtain ⟨UA, uc', rfl⟩ := slc_val U5
  have O5 := Lib.hid (bstep O4.out hb5)
  clear hb5 O4 hu KA
  have B6 : Slc (w5.alloc (.cells #[.string ⟨#[100]⟩, .string ⟨#[97, 98, 99]⟩] 9)) 9 1 (.slice (some ⟨w5.heap.size, 0, none⟩) 2 2) 2 (strs [[100], [97, 98, 99]]) := ⟨rfl, .inr ⟨w5.heap.size, 2, [], rfl, Blk.new _ _ _, rfl, by decide⟩⟩
  have U6 := U5.alloc (.cells #[.string ⟨#[100]⟩, .string ⟨#[97, 98, 99]⟩] 9)
  have O6 := Lib.hid (O5.out.alloc O5.out.size (.cells #[.string ⟨#[100]⟩, .string ⟨#[97, 98, 99]⟩] 9))
  have KS := Lib.hid (same_any U6 B6 (by omega))
  clear B6 U6 U5
  go_wp2_with fail
  refine KS.out.mono ?_
  rintro e w7 ⟨rfl, hb7⟩
  have O7 := Lib.hid (bstep O6.out hb7)
  clear hb7
  go_wp2_with fail
  refine (KM.out _).mono ?_
  rintro e w8 ⟨rfl, hb8⟩
  have O8 := Lib.hid (bstep O7.out hb8)
  clear hb8
  go_wp2_with fail
  refine (KL.out _).mono ?_
  rintro e w9 ⟨rfl, hb9⟩
  have O9 := Lib.hid (bstep O8.out hb9)
  clear hb9
  go_wp2_with fail
  go_ret
  exact ⟨by first | rfl | simp, O9.out⟩
end Go.Proofs.Yticehnnbjbliaaa.Sl
