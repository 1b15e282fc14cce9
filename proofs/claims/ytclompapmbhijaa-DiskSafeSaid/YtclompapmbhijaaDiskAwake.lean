/- what the statements of layer 10 share: awake. -/
import Derived.Test.YtclompapmbhijaaDiskView
namespace Go.Proofs.Ytclompapmbhijaa.Dk
open Go.RowKit
def awC : Cr := { A := none, m := 0, c := 0, kp := fun _ => false, torn := 0, bytes := 1 }
def aw1 : D := ((D.zero 2).writeF 2 0 [97, 97]).1
def aw2 : D := aw1.syncF.1
def aw3 : D := (aw2.writeF 2 0 [98, 98, 98]).1
def aw4 : D := aw3.crashF awC 2
theorem awC_at (w : World) : awC.At w := fun i hi => absurd hi (Nat.not_lt_zero i)
set_option maxRecDepth 100000 in
set_option maxHeartbeats 1000000 in
theorem awake_any (w : World) :
    Calls Try.prog 10 #[] w fun e w' => e = .returned (.bool true) ∧ Below w.heap.size w w' := by
  have KN := Lib.hid (new_yes 2 w (by omega) (by omega))
  go_enter Try.func10, Try.ntmps10
  go_wp2_with fail
  refine KN.out.mono ?_
  rintro e w1 ⟨L, rfl, D1, hb1, fr⟩
  have fr := Lib.hid fr
  have K1 := Lib.hid (write_any D1 0 ⟨#[97, 97]⟩ (by decide) (by decide))
  rw [show ((D.zero 2).writeF 2 0 (⟨#[97, 97]⟩ : ByteArray).data.toList).2 = 0 from by decide +kernel, show ((D.zero 2).writeF 2 0 (⟨#[97, 97]⟩ : ByteArray).data.toList).1 = aw1 from rfl] at K1
  unfold dp at K1 ⊢
  go_wp2_with fail
  refine K1.out.mono ?_
  rintro e w2 ⟨rfl, D2, o2⟩
  have O2 := hb1.trans (o2.below_of hb1.size fr.out)
  clear o2 D1 hb1 K1
  have K2 := Lib.hid (sync_any D2 (by decide +kernel) (by decide +kernel))
  rw [show aw1.syncF.2 = 0 from by decide +kernel, show aw1.syncF.1 = aw2 from rfl] at K2
  unfold dp at K2
  go_wp2_with fail
  refine K2.out.mono ?_
  rintro e w3 ⟨rfl, D3, o3⟩
  have O3 := O2.trans (o3.below_of O2.size fr.out)
  clear o3 D2 O2 K2
  have K3 := Lib.hid (write_any D3 0 ⟨#[98, 98, 98]⟩ (by decide +kernel) (by decide +kernel))
  rw [show (aw2.writeF 2 0 (⟨#[98, 98, 98]⟩ : ByteArray).data.toList).2 = 0 from by decide +kernel, show (aw2.writeF 2 0 (⟨#[98, 98, 98]⟩ : ByteArray).data.toList).1 = aw3 from rfl] at K3
  unfold dp at K3
  go_wp2_with fail
  refine K3.out.mono ?_
  rintro e w4 ⟨rfl, D4, o4⟩
  have O4 := O3.trans (o4.below_of O3.size fr.out)
  clear o4 D3 O3 K3
  have K4 := Lib.hid (crash_any D4 awC (awC_at _) (by decide) (fun ad h => by cases h))
  rw [show aw3.crashF awC 2 = aw4 from rfl] at K4
  unfold dp at K4
  rw [show awC.val = .agg #[.slice none 0 0, .int .i64 0, .int .i64 1] from rfl] at K4
  go_wp2_with fail
  refine K4.out.mono ?_
  rintro e w5 ⟨rfl, D5, o5⟩
  have O5 := O4.trans (o5.below_of O4.size fr.out)
  clear o5 D4 O4 K4
  have K5 := Lib.hid (read_any D5 0)
  rw [show aw4.readF 2 0 = (fillF [98, 97], 0) from by decide +kernel] at K5
  unfold dp at K5
  go_wp2_with fail
  refine K5.out.mono ?_
  rintro e w6 ⟨rfl, rfl⟩
  have K6 := Lib.hid (fill_any ⟨#[98, 97]⟩ w5 (by decide))
  rw [show (⟨#[98, 97]⟩ : ByteArray).data.toList = [98, 97] from rfl] at K6
  generalize fillF [98, 97] = F at *
  go_wp2_with fail
  refine K6.out.mono ?_
  rintro e w6 ⟨rfl, hb6⟩
  have D6 := D5.below hb6
  have O6 := bstep O5 hb6
  have K7 := Lib.hid (calls_any D6)
  rw [show aw4.calls = 3 from by decide +kernel] at K7
  have K8 := Lib.hid (loose_any D6)
  rw [show aw4.loose.count true = 0 from by decide +kernel] at K8
  unfold dp at K7 K8
  go_wp2_with fail
  refine K7.out.mono ?_
  rintro e w7 ⟨rfl, rfl⟩
  go_wp2_with fail
  refine K8.out.mono ?_
  rintro e w7 ⟨rfl, rfl⟩
  go_wp2_with fail
  go_ret
  exact ⟨by first | rfl | simp, O6⟩
end Go.Proofs.Ytclompapmbhijaa.Dk
