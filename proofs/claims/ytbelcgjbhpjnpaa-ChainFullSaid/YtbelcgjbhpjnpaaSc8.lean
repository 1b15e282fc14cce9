/- chain's laws: awake. -/
import Derived.Test.YtbelcgjbhpjnpaaSc7
import Derived.Test.YtbelcgjbhpjnpaaSm6
namespace Go.Proofs.Ytbelcgjbhpjnpaa.Sh
open Go.RowKit Pk Dk Pg
attribute [local go_sem ↓] Go.wp_at_zero Go.wp_at_succ
theorem start_fresh (n : Nat) : AllFresh (St.start n) ∧ (St.start n).free = n ∧ (St.start n).now.length = 0 ∧ (St.start n).fresh = 0 := by
  refine ⟨fun x hx => by simp [St.start] at hx, ?_, rfl, rfl⟩
  show n - (0 + needT 0) - 0 = n
  simp [needT]
theorem longL_length (s : List UInt8) (n : Nat) : (longL s n).length = max s.length n := by
  unfold longL
  rw [List.length_append, List.length_map, List.length_range]
  omega
theorem postQ_new {w w' : World} {pb sb : Nat} {F : List Nat} {a : St} {k : Int} (h : PostQ w w' pb sb F a k) {B : Nat} (hB : B ≤ w.heap.size) (hF : ∀ g ∈ F, B ≤ g) : ∃ F', AtQ w' pb sb F' a k ∧ Below B w w' ∧ ∀ g ∈ F', B ≤ g := by
  obtain ⟨F', A, o, f⟩ := h
  exact ⟨F', A, o.below_of hB hF, fun g hg => (f g hg).elim (hF g) (fun h => by omega)⟩
set_option maxRecDepth 100000 in
set_option maxHeartbeats 2000000 in
theorem awake_any (w : World) : Calls Try.prog 8 #[] w fun e w' => e = .returned (.bool true) ∧ Below w.heap.size w w' := by
  have KB := Lib.hid (begun_any w 2 20 (by omega) (by omega) (by omega) (by omega))
  have KL := Lib.hid (fun (W : World) => long_any ⟨#[97]⟩ 300 W (by show 1 ≤ 100000; omega) (by omega))
  obtain ⟨V, hV⟩ : ∃ V : ByteArray, V = ⟨(longL (⟨#[97]⟩ : ByteArray).data.toList 300).toArray⟩ := ⟨_, rfl⟩
  rw [← hV] at KL
  have hvl : V.data.toList.length = 300 := by rw [hV]; show (longL _ 300).length = 300; rw [longL_length]; rfl
  have hvs : V.size = 300 := by rw [← hvl]; simp
  obtain ⟨s1, s2, s3, s4⟩ := start_fresh 20
  obtain ⟨a', p, L, r1, r2, r3, r4, r5, _⟩ := cput_good (v := V.data.toList) s1 (by omega) (by rw [s2, hvl]; decide) (by omega)
  have hL : L.length = 2 := by rw [r3, hvl]; decide
  have hW := cwalk_good r2 r3 (by omega)
  have KP := Lib.hid (fun (W : World) (pb sb : Nat) (F : List Nat) (hW : AtQ W pb sb F (St.start 20) 10) => cput_any hW V (by omega) (by omega))
  rw [r1] at KP
  have KG := Lib.hid (fun (W : World) (pb sb : Nat) (F : List Nat) (hW : AtQ W pb sb F a' 30) => cget_any hW p)
  have KM := Lib.hid (fun (W : World) (pb sb : Nat) (F : List Nat) (hW : AtQ W pb sb F a' 30) => cpages_any hW p)
  rw [hW] at KG KM
  have KN := Lib.hid (cneed_any 300 (by omega))
  rw [show cneedF 300 = 2 from rfl] at KN
  have hVV : (⟨V.data.toList.toArray⟩ : ByteArray) = V := by cases V; rfl
  dsimp only at KG KM KP
  rw [hVV] at KG
  rw [show (10 : Int) + 20 = 30 from rfl] at KP
  clear hV hvl hvs s1 s2 s3 s4 r1 r2 r3 r4 r5 hW hVV
  unfold pp at *
  go_enter Try.func8, Try.ntmps8
  go_wp2_with fail
  refine KB.out.mono ?_
  rintro e w1 ⟨pb, sb, rb, F, rfl, A1, hb1, hF⟩
  have H1 := Lib.hid (show AtQ w1 pb sb F (St.start 20) 10 ∧ Below w.heap.size w w1 ∧ ∀ g ∈ F, w.heap.size ≤ g from ⟨A1, hb1, hF⟩)
  clear A1 hb1 hF
  go_wp2_with fail
  refine (KL.out _).mono ?_
  rintro e w2 ⟨rfl, hb2⟩
  have H2 := Lib.hid (show AtQ w2 pb sb F (St.start 20) 10 ∧ Below w.heap.size w w2 from ⟨H1.out.1.below hb2, bstep H1.out.2.1 hb2⟩)
  clear hb2
  go_wp2_with fail
  refine (KP.out w2 pb sb F H2.out.1).mono ?_
  rintro e w3 ⟨rfl, q3⟩
  obtain ⟨F3, A3, b3, f3⟩ := postQ_new q3 H2.out.2.size H1.out.2.2
  have H3 := Lib.hid (show AtQ w3 pb sb F3 a' 30 ∧ Below w.heap.size w w3 ∧ ∀ g ∈ F3, w.heap.size ≤ g from ⟨A3, H2.out.2.trans b3, f3⟩)
  clear q3 A3 b3 f3
  go_wp2_with fail
  refine (KG.out w3 pb sb F3 H3.out.1).mono ?_
  rintro e w4 ⟨rfl, A4, o4⟩
  have H4 := Lib.hid (show AtQ w4 pb sb F3 a' 30 ∧ Below w.heap.size w w4 from ⟨A4, H3.out.2.1.trans (o4.below_of H3.out.2.1.size H3.out.2.2)⟩)
  clear A4 o4
  go_wp2_with fail
  refine (KM.out w4 pb sb F3 H4.out.1).mono ?_
  rintro e w5 ⟨A, n, c, rfl, S5, A5, o5, _⟩
  obtain ⟨A', c', e⟩ := slc_val S5
  injection e with e1 e2 e3
  subst e1 e2 e3
  have H5 := Lib.hid (show Below w.heap.size w w5 from H4.out.2.trans (o5.below_of H4.out.2.size H3.out.2.2))
  clear S5 A5 o5
  go_wp2_with fail
  refine (KL.out _).mono ?_
  rintro e w6 ⟨rfl, hb6⟩
  have H6 := Lib.hid (bstep H5.out hb6)
  clear hb6
  go_wp2_with fail
  refine (KN.out _).mono ?_
  rintro e w7 ⟨rfl, rfl⟩
  go_wp2_with fail
  go_ret
  exact ⟨by first | rfl | simp, H6.out⟩
set_option maxRecDepth 100000 in
set_option maxHeartbeats 2000000 in
theorem cput_big (w : World) (pb : Nat) (v : ByteArray) (hv : 1024 < v.size) :
    Calls Try.prog 9 #[pp pb, .string v] w fun e w' => e = .returned (.tuple #[.int .i64 0, .int .i64 4]) ∧ Below w.heap.size w w' := by
  have O0 := Lib.hid (belowAlloc (Below.refl w.heap.size w) (.cells #[.string v] 9))
  have B0 := Lib.hid (Blk.new w 9 #[.string v])
  have q0 := B0.out.cell_some (i := 0) rfl
  have hvI : (1024 : Int) < (v.size : Int) := by omega
  unfold pp
  go_enter Try.func9, Try.ntmps9
  go_wp2_with fail
  go_ret2
  exact ⟨by first | rfl | simp, O0.out⟩
theorem calls_nil {w : World} {f : FuncId} {args : Array Value} {v : Value} (h : Calls Try.prog f args w fun e w' => e = .returned v ∧ Below w.heap.size w w') : Calls Try.prog f args w fun e w' => e = .returned v ∧ Below w.heap.size w w' := h
set_option maxRecDepth 100000 in
set_option maxHeartbeats 2000000 in
theorem cput_nil (w : World) (v : ByteArray) :
    Calls Try.prog 9 #[.pointer none, .string v] w fun e w' => e = .returned (.tuple #[.int .i64 0, .int .i64 1]) ∧ Below w.heap.size w w' := by
  have O0 := Lib.hid (belowAlloc (Below.refl w.heap.size w) (.cells #[.string v] 9))
  go_enter Try.func9, Try.ntmps9
  go_wp2_with fail
  go_ret2
  exact ⟨by first | rfl | simp, O0.out⟩
theorem cwalk_nil (w : World) (p : Int) :
    Calls Try.prog 27 #[.pointer none, .int .i64 p] w fun e w' => e = .returned (.tuple #[.slice none 0 0, .string ⟨#[]⟩, .int .i64 1]) ∧ w = w' := by
  go_enter Try.func27, Try.ntmps27
  go_wp2_with fail
  go_ret3
  exact ⟨by first | rfl | simp, rfl⟩
theorem cget_nil (w : World) (p : Int) :
    Calls Try.prog 11 #[.pointer none, .int .i64 p] w fun e w' => e = .returned (.tuple #[.string ⟨#[]⟩, .int .i64 1]) ∧ w = w' := by
  have K := Lib.hid (cwalk_nil w p)
  go_enter Try.func11, Try.ntmps11
  go_wp2_with fail
  refine K.out.mono ?_
  rintro e w1 ⟨rfl, rfl⟩
  go_wp2_with fail
  go_ret2
  exact ⟨by first | rfl | simp, rfl⟩
theorem cpages_nil (w : World) (p : Int) :
    Calls Try.prog 12 #[.pointer none, .int .i64 p] w fun e w' => e = .returned (.tuple #[.slice none 0 0, .int .i64 1]) ∧ w = w' := by
  have K := Lib.hid (cwalk_nil w p)
  go_enter Try.func12, Try.ntmps12
  go_wp2_with fail
  refine K.out.mono ?_
  rintro e w1 ⟨rfl, rfl⟩
  go_wp2_with fail
  go_ret2
  exact ⟨by first | rfl | simp, rfl⟩
theorem cdrop_nil (w : World) (p : Int) :
    Calls Try.prog 10 #[.pointer none, .int .i64 p] w fun e w' => e = .returned (.int .i64 1) ∧ w = w' := by
  have K := Lib.hid (cwalk_nil w p)
  go_enter Try.func10, Try.ntmps10
  go_wp2_with fail
  refine K.out.mono ?_
  rintro e w1 ⟨rfl, rfl⟩
  go_wp2_with fail
  go_ret
  exact ⟨by first | rfl | simp, rfl⟩
/-- the document's number of pages -/
theorem rneed_any (n : Int) (h0 : -9223372036854775808 ≤ n) (h : n ≤ 1000000) (w : World) :
    Calls Try.prog 14 #[.int .i64 n] w fun e w' => e = .returned (.int .i64 (cneedF n)) ∧ w = w' := by
  go_enter Try.func14, Try.ntmps14
  go_wp2_with fail
  go_loop [0, 3] (fun nv kv => ∃ j : Nat, nv = .int .i64 (n - 228 * (j : Int)) ∧ kv = .int .i64 ((j : Int) + 1) ∧ (0 < j → 228 * (j : Int) < n)) (fun nv _ => (intOf nv).toNat)
  case atStart => exact ⟨0, by simp, by simp, by omega⟩
  case round =>
    obtain ⟨j, rfl, rfl, hj⟩ := hrel
    by_cases hgt : 228 < n - 228 * (j : Int)
    · have e1 : IntKind.i64.wrap (n - 228 * (j : Int) - 228) = n - 228 * ((j + 1 : Nat) : Int) := by rw [show n - 228 * (j : Int) - 228 = n - 228 * ((j + 1 : Nat) : Int) by omega]; exact IntWalk.i64_in _ (by omega)
      have e2 : IntKind.i64.wrap ((j : Int) + 1 + 1) = ((j + 1 : Nat) : Int) + 1 := by rw [show (j : Int) + 1 + 1 = ((j + 1 : Nat) : Int) + 1 by omega]; exact IntWalk.i64_in _ (by omega)
      go_wp2_with fail
      go_round
      case rel => exact ⟨j + 1, by go_num, by go_num, fun _ => by omega⟩
      case measure => simp [intOf]; omega
    · have he : cneedF n = (j : Int) + 1 := by
        unfold cneedF
        rcases Nat.eq_zero_or_pos j with rfl | h
        · omega
        · have := hj h; omega
      go_wp2_with fail
      go_ret
      exact ⟨by first | rfl | (simp [he]; done) | simp_all, rfl⟩
end Go.Proofs.Ytbelcgjbhpjnpaa.Sh
