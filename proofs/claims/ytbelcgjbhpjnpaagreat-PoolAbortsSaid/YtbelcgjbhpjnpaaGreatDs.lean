/- layer 15's awake; calls of the pool beside the document's. -/
import Derived.Test.YtbelcgjbhpjnpaaGreatDr
import Derived.Test.YtbelcgjbhpjnpaaGreatRb
set_option linter.all false
set_option linter.unusedVariables false
set_option linter.unusedSimpArgs false
namespace Go.Proofs.YtbelcgjbhpjnpaaGreat.Sh
open Go.RowKit Pk Dk Pg
attribute [local go_sem ↓] Go.wp_at_zero Go.wp_at_succ
section
variable {w0 w W : World} {pq xq rs n K : Nat} {qp qx : QS}
theorem PX.call (S : PX w0 W pq xq rs n qp qx K) {f : FuncId} {args : Array Value} {R : Value} {qp' : QS} {K' : Nat} (hK : K ≤ K') (H' : Hq qp' n K')
  (hc : ∀ y, y.pb = pq → ZP W y n qp K → Calls Tryz.prog f args W fun e W' => e = .returned R ∧ ZTo W W' y n qp' K') :
  Calls Tryz.prog f args W fun e W' => e = .returned R ∧ PX w0 W' pq xq rs n qp' qx K' := by
 obtain ⟨y, e, Z, fr⟩ := S.p
 obtain ⟨c, A, z⟩ := Z
 exact (hc y e ⟨c, A, z⟩).mono fun e' W' ⟨r, p⟩ => ⟨r, S.prog e A fr hK H' p⟩
theorem PX.new_ (S : PX w0 w pq xq rs n qp qx K) (hK : K ≤ 800000) (s : ByteArray) (hs : s.size ≤ 1000000) :
  Calls Tryz.prog 53 #[pp pq, .string s] w fun e W => e = .returned (.tuple #[.int .i64 (qp.newF s.data.toList).2.1, .int .i64 (qp.newF s.data.toList).2.2]) ∧ PX w0 W pq xq rs n (qp.newF s.data.toList).1 qx (K + 1) :=
 S.call (by omega) (S.hp.new _) (fun y e Z => by rw [← e]; exact zpnew_any Z (by omega) s (by omega))
theorem PX.hold (S : PX w0 w pq xq rs n qp qx K) (hK : K ≤ 800000) (l : Int) :
  Calls Tryz.prog 52 #[pp pq, .int .i64 l] w fun e W => e = .returned (.tuple #[.string (qp.holdF l).2.1, .int .i64 (qp.holdF l).2.2]) ∧ PX w0 W pq xq rs n (qp.holdF l).1 qx (K + 1) :=
 S.call (by omega) (S.hp.hold l) (fun y e Z => by rw [← e]; exact (zhold_any Z S.hp.f (by omega) l).mono fun e w' h => ⟨h.1, .self h.2.1 h.2.2⟩)
theorem PX.let_ (S : PX w0 w pq xq rs n qp qx K) (hK : K ≤ 800000) (l : Int) :
  Calls Tryz.prog 56 #[pp pq, .int .i64 l] w fun e W => e = .returned (.int .i64 (qp.letF l).2) ∧ PX w0 W pq xq rs n (qp.letF l).1 qx K :=
 S.call (by omega) (S.hp.let_ l) (fun y e Z => by rw [← e]; exact (zlet_any Z S.hp.f (by omega) l).mono fun e w' h => ⟨h.1, .self h.2.1 h.2.2⟩)
theorem PX.pages (S : PX w0 w pq xq rs n qp qx K) :
  Calls Tryz.prog 47 #[pp pq] w fun e W => (∃ A c, e = .returned (.slice A (pgL qp.l).length c) ∧ Slc W 3 1 (.slice A (pgL qp.l).length c) (pgL qp.l).length (nvs' (msort (pgL qp.l)))) ∧ PX w0 W pq xq rs n qp qx K ∧ Below w.heap.size w W := by
 obtain ⟨y, rfl, ⟨c, A, z⟩, fr⟩ := S.p
 refine (ppages_any A).mono ?_
 rintro e W ⟨v, rfl, V, hb⟩
 obtain ⟨A', c', rfl⟩ := slc_val V
 exact ⟨⟨A', c', rfl, V⟩, S.below hb, hb⟩
end
/-- awake's pool with so many pages made -/
def aw : Nat → QS
 | 0 => QS.start 2 20
 | i + 1 => ((aw i).newF [97]).1
def aw4 : QS := ((aw 3).holdF 0).1
def aw5 : QS := (aw4.holdF 1).1
def aw6 : QS := (aw5.holdF 2).1
def aw7 : QS := (aw6.letF 0).1
def aw8 : QS := (aw7.holdF 2).1
set_option maxRecDepth 100000 in
theorem aw_e : ∀ i, i < 3 → ((aw i).newF [97]).2 = ((i : Int), 0) := by decide +kernel
set_option maxRecDepth 100000 in
theorem aw_r : (aw5.holdF 2).2.2 = 12 ∧ (aw7.holdF 2).2.2 = 0 ∧ (aw7.holdF 2).2.1.data.toList = padL [97] 232 ∧ aw8.l.map Fr.page = [2, 1] := by decide +kernel
theorem aw_pages : pgL aw8.l = [2, 1] ∧ msort (pgL aw8.l) = [1, 2] := by
 have h : pgL aw8.l = [2, 1] := by unfold pgL; rw [aw_r.2.2.2]; decide
 exact ⟨h, by rw [h]; unfold msort; simp [List.mergeSort, List.MergeSort.Internal.splitInTwo, List.merge]⟩
set_option maxRecDepth 100000 in
set_option maxHeartbeats 4000000 in
theorem awake15 (w : World) :
  Calls Tryz.prog 41 #[] w fun e w' => e = .returned (.bool true) ∧ Below w.heap.size w w' := by
 have KB := Lib.hid (begun15_any w 2 20 (by omega) (by omega) (by omega) (by omega))
 rw [show QS.start 2 20 = aw 0 from rfl, show 2 + 4 * 20 = 82 from rfl] at KB
 generalize hX : aw 0 = QX at KB
 have KM := Lib.hid (show ∀ (i : Nat) (W : World) (pq xq rs : Nat), i < 3 → PX w W pq xq rs 82 (aw i) QX (i + 1) → Calls Tryz.prog 53 #[pp pq, .string ⟨#[97]⟩] W fun e w' => e = .returned (.tuple #[.int .i64 (i : Nat), .int .i64 0]) ∧ PX w w' pq xq rs 82 (aw (i + 1)) QX (i + 1 + 1) from fun i W pq xq rs hi h => by
  have K := h.new_ (by omega) ⟨#[97]⟩ (by decide)
  rw [show (⟨#[97]⟩ : ByteArray).data.toList = [97] from rfl, aw_e i hi] at K
  exact K)
 have K4 := Lib.hid (fun (W : World) (pq xq rs : Nat) (h : PX w W pq xq rs 82 (aw 3) QX 4) => h.hold (by omega) 0)
 rw [show ((aw 3).holdF 0).1 = aw4 from rfl] at K4
 generalize ((aw 3).holdF 0).2 = r4 at K4
 have K5 := Lib.hid (fun (W : World) (pq xq rs : Nat) (h : PX w W pq xq rs 82 aw4 QX 5) => h.hold (by omega) 1)
 rw [show (aw4.holdF 1).1 = aw5 from rfl] at K5
 generalize (aw4.holdF 1).2 = r5 at K5
 have K6 := Lib.hid (fun (W : World) (pq xq rs : Nat) (h : PX w W pq xq rs 82 aw5 QX 6) => h.hold (by omega) 2)
 rw [show (aw5.holdF 2).1 = aw6 from rfl, aw_r.1] at K6
 generalize (aw5.holdF 2).2.1 = r6 at K6
 have K7 := Lib.hid (fun (W : World) (pq xq rs : Nat) (h : PX w W pq xq rs 82 aw6 QX 7) => h.let_ (by omega) 0)
 rw [show (aw6.letF 0).1 = aw7 from rfl] at K7
 generalize (aw6.letF 0).2 = r7 at K7
 have K8 := Lib.hid (fun (W : World) (pq xq rs : Nat) (h : PX w W pq xq rs 82 aw7 QX 7) => h.hold (by omega) 2)
 rw [show (aw7.holdF 2).1 = aw8 from rfl, aw_r.2.1] at K8
 obtain ⟨R8, hR8⟩ : ∃ R, (aw7.holdF 2).2.1 = R := ⟨_, rfl⟩
 have hr8 := aw_r.2.2.1
 rw [hR8] at K8 hr8
 have U1 := Lib.hid (fun W => rfull_any ⟨#[97]⟩ (by decide) W)
 rw [show (⟨#[97]⟩ : ByteArray).data.toList = [97] from rfl, ← hr8] at U1
 rw [show (⟨R8.data.toList.toArray⟩ : ByteArray) = R8 from by simp] at U1
 have KP := Lib.hid (fun (W : World) (pq xq rs : Nat) (h : PX w W pq xq rs 82 aw8 QX 8) => h.pages)
 have hlp : (pgL aw8.l).length = 2 := by rw [aw_pages.1]; rfl
 rw [hlp, aw_pages.2] at KP
 have KI := Lib.hid (fun (W : World) (A A' : Option Addr) (n n' c c' : Nat) (l : List Int) (h1 : Rt.IntsAt W A n l) (h2 : Rt.IntsAt W A' n' l) (hn : n ≤ 1000000) (hn' : n' ≤ 1000000) => Rt.ints_any A A' n c n' c' l l h1 h2 hn hn' true (by simp))
 have hbe : (R8.toList == R8.toList) = true := by simp
 have HP := Lib.hid (fun (W : World) (pq xq rs : Nat) (q : QS) (K : Nat) (h : PX w W pq xq rs 82 q QX K) (W' : World) (hb : Below W.heap.size W W') => h.below hb)
 clear hr8 hR8 hlp
 generalize aw8 = s8 at *
 generalize aw7 = s7 at *
 generalize aw6 = s6 at *
 generalize aw5 = s5 at *
 generalize aw4 = s4 at *
 have HX := Lib.hid hX
 clear hX
 unfold pp rp at *
 go_enter Tryz.func41, Tryz.ntmps41
 go_wp2_with fail
 refine KB.out.mono ?_
 rintro e w1 ⟨pq, xq, rs, rfl, P⟩
 have P1 := Lib.hid (show PX w w1 pq xq rs 82 (aw 0) QX (0 + 1) from by rw [HX.out]; exact P)
 clear P HX
 go_wp2_with fail
 go_loopw [3, 4, 5] (fun iv _ _ wq => ∃ i : Nat, i ≤ 3 ∧ iv = .int .i64 i ∧ Hid (PX w wq pq xq rs 82 (aw i) QX (i + 1))) (fun iv _ _ _ => 3 - (intOf iv).toNat)
 case atStart => exact ⟨0, Nat.zero_le _, rfl, P1⟩
 case round =>
  obtain ⟨i, hi, rfl, HC⟩ := hrel
  by_cases h' : i < 3
  ·have hI : (i : Int) < 3 := by omega
   have ei : IntKind.i64.wrap ((i : Int) + 1) = ((i + 1 : Nat) : Int) := IntWalk.i64_in _ (by omega)
   go_wp2_with fail
   refine (KM.out i _ _ _ _ h' HC.out).mono ?_
   rintro e w2 ⟨rfl, P⟩
   have P2 := Lib.hid P
   clear P
   go_wp2_with fail
   go_roundw
   case rel => exact ⟨i + 1, by omega, by go_num, P2⟩
   case measure => simp [intOf]; omega
  ·obtain rfl : i = 3 := by omega
   go_wp2_with fail
   refine (K4.out _ _ _ _ HC.out).mono ?_
   rintro e w2 ⟨rfl, P⟩
   have P2 := Lib.hid P
   clear P
   go_wp2_with fail
   refine (K5.out _ _ _ _ P2.out).mono ?_
   rintro e w3 ⟨rfl, P⟩
   have P3 := Lib.hid P
   clear P
   go_wp2_with fail
   refine (K6.out _ _ _ _ P3.out).mono ?_
   rintro e w4 ⟨rfl, P⟩
   have P4 := Lib.hid P
   clear P
   go_wp2_with fail
   refine (K7.out _ _ _ _ P4.out).mono ?_
   rintro e w5 ⟨rfl, P⟩
   have P5 := Lib.hid P
   clear P
   go_wp2_with fail
   refine (K8.out _ _ _ _ P5.out).mono ?_
   rintro e w6 ⟨rfl, P⟩
   have P6 := Lib.hid P
   clear P
   go_wp2_with fail
   refine (U1.out _).mono ?_
   rintro e w7 ⟨rfl, hb7⟩
   have P7 := Lib.hid (HP.out _ _ _ _ _ _ P6.out _ hb7)
   clear hb7
   go_wp2_with fail
   refine (KP.out _ _ _ _ P7.out).mono ?_
   rintro e w8 ⟨⟨A, c, rfl, S⟩, P, hb8⟩
   have P8 := Lib.hid P
   have I1 := Lib.hid (ints_of2 (S.alloc (.cells #[.int .i64 1, .int .i64 2] 3)))
   have I2 := Lib.hid (ints_of2 (show Slc (w8.alloc (.cells #[.int .i64 1, .int .i64 2] 3)) 3 1 (.slice (some ⟨w8.heap.size, 0, none⟩) 2 2) 2 (nvs' [1, 2]) from slc_lit w8 3 [.int .i64 1, .int .i64 2] (by simp [maxLen])))
   have KI2 := Lib.hid (KI.out _ _ _ _ _ c 2 _ I1.out I2.out (by omega) (by omega))
   have PE := Lib.hid (bstep P8.out.b (belowAlloc (Below.refl w8.heap.size w8) (.cells #[.int .i64 1, .int .i64 2] 3)))
   clear P S hb8
   go_wp2_with fail
   refine KI2.out.mono ?_
   rintro e w9 ⟨rfl, hb9⟩
   have PF := Lib.hid (bstep PE.out hb9)
   clear hb9
   go_wp2_with fail
   go_ret
   exact ⟨by first | rfl | simp, PF.out⟩
end Go.Proofs.YtbelcgjbhpjnpaaGreat.Sh
