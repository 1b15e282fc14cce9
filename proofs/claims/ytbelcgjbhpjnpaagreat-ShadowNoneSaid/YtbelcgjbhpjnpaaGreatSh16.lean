/- pool by its contracts: back. -/
import Derived.Test.YtbelcgjbhpjnpaaGreatSh15
namespace Go.Proofs.YtbelcgjbhpjnpaaGreat.Sh
open Go.RowKit Pk Dk Pg
attribute [local go_sem ↓] Go.wp_at_zero Go.wp_at_succ
set_option maxRecDepth 100000 in
set_option maxHeartbeats 2000000 in
/-- a frame that is not dirty is not written -/
theorem back_clean {w : World} {y : Y} {n : Nat} {s : PS} (h : AtP w y n s) (k : Nat) {f : Fr} (hf : s.l[k]? = some f) (hd : f.dirty = false) :
    Calls Tryz.prog 123 #[pp y.pb, .int .i64 (k : Nat)] w fun e w' => e = .returned (.int .i64 0) ∧ Below w.heap.size w w' := by
  have hk : k < s.l.length := (List.getElem?_eq_some_iff.1 hf).1
  have p1 := h.p1
  have l2 := h.l2
  have hkI : (k : Int) < (s.l.length : Int) := by omega
  obtain ⟨_, _, _, c3, _⟩ := h.frs k f hf
  rw [hd] at c3
  have OB := Lib.hid (Below.refl w.heap.size w)
  clear h hf hd
  unfold pp at *
  go_enter Tryz.func123, Tryz.ntmps123
  go_wp2_with fail
  go_ret
  exact ⟨by first | rfl | simp, OB.out⟩
end Go.Proofs.YtbelcgjbhpjnpaaGreat.Sh
