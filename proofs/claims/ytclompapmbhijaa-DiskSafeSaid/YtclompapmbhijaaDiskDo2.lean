/- both disks side by side: do, a write. -/
import Derived.Test.YtclompapmbhijaaDiskDo
import Derived.Deep.RegionHeld3
import Derived.Deep.DrawnRows
namespace Go.Proofs.Ytclompapmbhijaa.Dk
open Go.RowKit
set_option maxRecDepth 100000 in
set_option maxHeartbeats 4000000 in
theorem do_write {w : World} {L : Loc} {M : XL} {n : Nat} {d : D} {x : X} (h : Both w L M n d x) (hc : d.calls ≤ 1000000) (hr : d.armed ≤ 9223372036854775807) (k i : Int) (hk : k = 0 ∨ k = 1 ∨ k = 2) (s : ByteArray) (hs : s.size ≤ 1000) (C : Cr) :
    Calls Try.prog 28 #[dp L.b, xp M.b, actV k i s C] w fun e w' => e = .returned (.bool true) ∧ Step w w' L M n d := by
  have O0 := (Below.refl w.heap.size w).alloc (Nat.le_refl _) (.cells (actC k i s C) 45)
  have h0 := Lib.hid (h.below O0)
  have B0 := Blk.new w 45 (actC k i s C)
  have hbx : w.heap.size ∉ L.fp := fun e => Nat.lt_irrefl _ (h.dv.lt _ e)
  have hbz : w.heap.size ∉ bfp L M := fun e => Nat.lt_irrefl _ (h.lt _ e)
  obtain ⟨e1, R1⟩ := h.r.write i s
  have bd := write_bd d n i s.data.toList hr
  have BD := Lib.hid bd
  have RR := Lib.hid R1
  have a0 := h.r.dok.armed
  have c0 := h.r.dok.calls
  have K1 := Lib.hid (write_any (h0.out.drew).dv i s (by omega) hr)
  rw [e1] at K1
  have X1 := Lib.hid (fun (w1 : World) (hx : XAt w1 M n x) => xwrite_any hx i s (by omega) (by rw [← h.r.calls]; omega) (by rw [← h.r.calls]; omega) (by rw [← h.r.arm]; omega) (by rw [← h.r.arm]; omega))
  generalize (x.writeF n i s).2 = p at K1 X1
  generalize (x.writeF n i s).1 = x2 at RR X1
  generalize (d.writeF n i s.data.toList).1 = d2 at RR K1 BD
  clear e1 R1 bd hc hr a0 c0
  unfold dp at K1
  unfold xp at X1
  rcases hk with rfl | rfl | rfl
  all_goals
    unfold dp xp actV
    go_enter Try.func28, Try.ntmps28
    go_wp2_with fail
    unfold actC at *
    generalize hW : w.alloc (.cells _ 45) = W at *
    clear hW
    have c1 := B0.cell_some (i := 1) rfl
    have c2 := B0.cell_some (i := 2) rfl
    have B1 := B0.drew
    go_region_held3 (fun w' => w'.cell? ⟨w.heap.size, 1, none⟩ = some (.int .i64 i) ∧ w'.cell? ⟨w.heap.size, 2, none⟩ = some (.string s)) (go_keep)
      (first | (go_at_call 15; refine K1.out.mono ?_; rintro e w1 ⟨rfl, m1, o1⟩; have c1' := (B1.only o1 hbx).cell_some (i := 1) rfl; have c2' := (B1.only o1 hbx).cell_some (i := 2) rfl; have R1 := Both.ref h0.out.drew o1) | (go_at_call 16; refine (X1.out _ R1).mono ?_; rintro e w2 ⟨rfl, R2, o2⟩; have c1' := (B1.only (bfpL L M o1 |>.trans (bfpM L M o2)) hbz).cell_some (i := 1) rfl; have c2' := (B1.only (bfpL L M o1 |>.trans (bfpM L M o2)) hbz).cell_some (i := 2) rfl))
    all_goals
      go_wp2_with fail
      go_ret
      exact ⟨by first | rfl | simp, (Both.step h0.out.drew o1 m1 o2 R2 RR.out BD.out.1 BD.out.2).from_ O0.drew⟩
theorem do_any {w : World} {L : Loc} {M : XL} {n : Nat} {d : D} {x : X} (h : Both w L M n d x) (hc : d.calls ≤ 1000000) (hr : d.armed ≤ 9223372036854775807) (k i : Int) (hi : i ≤ 9223372036854775807) (s : ByteArray) (hs : s.size ≤ 1000) (C : Cr) (hC : C.At w) (hm : C.m ≤ 9223372036854775807) (hap : ∀ ad, C.A = some ad → 0 < C.m → ad.block ∉ bfp L M) :
    Calls Try.prog 28 #[dp L.b, xp M.b, actV k i s C] w fun e w' => e = .returned (.bool true) ∧ Step w w' L M n d := by
  by_cases k0 : k = 0 ∨ k = 1 ∨ k = 2
  · exact do_write h hc hr k i k0 s hs C
  by_cases k3 : k = 3
  · subst k3; exact do_sync h hc hr i s C
  by_cases k4 : k = 4
  · subst k4; exact do_arm h hr i hi s C
  have q0 : k ≠ 0 := fun e => k0 (.inl e)
  have q1 : k ≠ 1 := fun e => k0 (.inr (.inl e))
  have q2 : k ≠ 2 := fun e => k0 (.inr (.inr e))
  exact do_crash h k i (by simpa using q0) (by simpa using q1) (by simpa using q2) (by simpa using k3) (by simpa using k4) s C hC hm hap
end Go.Proofs.Ytclompapmbhijaa.Dk
