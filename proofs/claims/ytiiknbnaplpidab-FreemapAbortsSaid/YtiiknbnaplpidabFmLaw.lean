/- what the statements of layer 12 share: awake. -/
import Derived.Test.YtiiknbnaplpidabFmMade
namespace Go.Proofs.Ytiiknbnaplpidab.Fm
open Go.RowKit
set_option maxRecDepth 100000 in
set_option maxHeartbeats 1000000 in
theorem awake_any (w : World) :
    Calls Try.prog 9 #[] w fun e w' => e = .returned (.bool true) ∧ Below w.heap.size w w' := by
  have KN := Lib.hid (new_yes 4 w (by omega))
  go_enter Try.func9, Try.ntmps9
  go_wp2_with fail
  refine KN.out.mono ?_
  rintro e w1 ⟨b, g, rfl, M, hb1, fb, fg⟩
  have K1 := Lib.hid (use_any M 0)
  have e1 : useF (List.replicate 4 0) 0 = ([1, 0, 0, 0], 0) := by decide
  rw [e1] at K1
  clear e1 M
  unfold mp at *
  go_wp2_with fail
  refine K1.out.mono ?_
  rintro e w2 ⟨rfl, M, o2⟩
  have O2 := hb1.trans (o2.below_of hb1.size (by simpa using fg))
  have K2 := Lib.hid (take_any M)
  have e1 : takeF ([1, 0, 0, 0], (0 : Int)).1 = ([1, 2, 0, 0], 1, 0) := by decide
  rw [e1] at K2
  clear e1 M o2 K1
  unfold mp at *
  go_wp2_with fail
  refine K2.out.mono ?_
  rintro e w3 ⟨rfl, M, o3⟩
  have O3 := O2.trans (o3.below_of O2.size (by simpa using fg))
  have K3 := Lib.hid (leave_any M 0)
  have e1 : leaveF ([1, 2, 0, 0], (1 : Int), (0 : Int)).1 0 = ([3, 2, 0, 0], 0) := by decide
  rw [e1] at K3
  clear e1 M o3 K2 O2
  unfold mp at *
  go_wp2_with fail
  refine K3.out.mono ?_
  rintro e w4 ⟨rfl, M, o4⟩
  have O4 := O3.trans (o4.below_of O3.size (by simpa using fg))
  have K4 := Lib.hid (take_any M)
  have e1 : takeF ([3, 2, 0, 0], (0 : Int)).1 = ([3, 2, 2, 0], 2, 0) := by decide
  rw [e1] at K4
  clear e1 M o4 K3 O3
  unfold mp at *
  go_wp2_with fail
  refine K4.out.mono ?_
  rintro e w5 ⟨rfl, M, o5⟩
  have O5 := O4.trans (o5.below_of O4.size (by simpa using fg))
  have K5 := Lib.hid (commit_any M)
  have e1 : turnF 0 1 ([3, 2, 2, 0], (2 : Int), (0 : Int)).1 = [0, 1, 1, 0] := by decide
  rw [e1] at K5
  clear e1 M o5 K4 O4
  unfold mp at *
  go_wp2_with fail
  refine K5.out.mono ?_
  rintro e w6 ⟨rfl, M, o6⟩
  have O6 := O5.trans (o6.below_of O5.size (by simpa using fg))
  have K6 := Lib.hid (take_any M)
  have e1 : takeF [0, 1, 1, 0] = ([2, 1, 1, 0], 0, 0) := by decide
  rw [e1] at K6
  clear e1 M o6 K5 O5
  unfold mp at *
  go_wp2_with fail
  refine K6.out.mono ?_
  rintro e w7 ⟨rfl, M, o7⟩
  have O7 := O6.trans (o7.below_of O6.size (by simpa using fg))
  have K7 := Lib.hid (free_any M)
  have e1 : (listF ([2, 1, 1, 0], (0 : Int), (0 : Int)).1 0).length = 1 := by decide
  rw [e1] at K7
  clear e1 o7 K6 O6
  unfold mp at *
  go_wp2_with fail
  refine K7.out.mono ?_
  rintro e w8 ⟨rfl, hb8⟩
  have M := M.below hb8
  have O8 := O7.trans (hb8.mono O7.size)
  have K8 := Lib.hid (fresh_any M 0)
  have K9 := Lib.hid (fresh_any M 1)
  have e1 : freshF ([2, 1, 1, 0], (0 : Int), (0 : Int)).1 0 = true := by decide
  rw [e1] at K8
  have e2 : freshF ([2, 1, 1, 0], (0 : Int), (0 : Int)).1 1 = false := by decide
  rw [e2] at K9
  clear e1 e2 K7 O7 hb8
  unfold mp at *
  go_wp2_with fail
  refine K8.out.mono ?_
  rintro e w9 ⟨rfl, rfl⟩
  go_wp2_with fail
  refine K9.out.mono ?_
  rintro e w9 ⟨rfl, rfl⟩
  go_wp2_with fail
  go_ret
  exact ⟨rfl, O8⟩
end Go.Proofs.Ytiiknbnaplpidab.Fm
