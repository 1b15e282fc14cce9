/- pool by its contracts: Get itself. -/
import Derived.Test.YtbelcgjbhpjnpaaGreatSh20
namespace Go.Proofs.YtbelcgjbhpjnpaaGreat.Sh
open Go.RowKit Pk Dk Pg
attribute [local go_sem ↓] Go.wp_at_zero Go.wp_at_succ
set_option maxRecDepth 100000 in
set_option maxHeartbeats 2000000 in
theorem get_good {w : World} {y : Y} {n : Nat} {s : PS} (h : AtP w y n s) (p : Int) (hc : CleanL s.l) (he : (s.holdF n p).2.2 = 0) (hb : ∀ f ∈ (s.holdF n p).1.l, -1000 ≤ f.held ∧ f.held ≤ 1000000) :
    Calls Tryz.prog 46 #[pp y.pb, .int .i64 p] w fun e w' => e = .returned (.tuple #[.string (s.holdF n p).2.1, .int .i64 0]) ∧ AtP w' y n ((s.holdF n p).1.letF p).1 ∧ Only y.fp w w' := by
  have O0 := Lib.hid (belowAlloc (Below.refl w.heap.size w) (.cells #[.string ⟨#[]⟩] 9))
  have B0 := Lib.hid (Blk.new w 9 #[.string ⟨#[]⟩])
  have NQ := Lib.hid (show w.heap.size ∉ y.fp from fun hm => by have := h.lt _ hm; omega)
  have KW := Lib.hid (with_good (h.below O0.out) p hc he _ B0.out NQ.out hb)
  generalize (s.holdF n p).2.1 = r at *
  generalize ((s.holdF n p).1.letF p).1 = S2 at *
  clear h hc he hb
  unfold pp at *
  go_enter Tryz.func46, Tryz.ntmps46
  go_wp2_with fail
  refine KW.out.mono ?_
  rintro e w1 ⟨rfl, A1, o1, B1⟩
  have A1 := Lib.hid A1
  have o1 := Lib.hid ((Only.of_below (S := w.heap.size :: y.fp) O0.out).trans o1)
  have q0 := B1.cell_some (i := 0) rfl
  clear B1
  go_wp2_with fail
  go_ret2
  exact ⟨by first | rfl | simp, A1.out, o1.out.mono (fun g hg hlt => by simp at hg; rcases hg with rfl | hg; · omega
                                                                        · exact hg)⟩
set_option maxRecDepth 100000 in
set_option maxHeartbeats 2000000 in
theorem get_bad {w : World} {y : Y} {n : Nat} {s : PS} (h : AtP w y n s) (p : Int) (hc : CleanL s.l) (he : (s.holdF n p).2.2 ≠ 0) :
    Calls Tryz.prog 46 #[pp y.pb, .int .i64 p] w fun e w' => e = .returned (.tuple #[.string ⟨#[]⟩, .int .i64 (s.holdF n p).2.2]) ∧ AtP w' y n (s.holdF n p).1 ∧ Only y.fp w w' := by
  have O0 := Lib.hid (belowAlloc (Below.refl w.heap.size w) (.cells #[.string ⟨#[]⟩] 9))
  have B0 := Lib.hid (Blk.new w 9 #[.string ⟨#[]⟩])
  have NQ := Lib.hid (show w.heap.size ∉ y.fp from fun hm => by have := h.lt _ hm; omega)
  have KW := Lib.hid (with_bad (q := w.heap.size) (h.below O0.out) p hc he)
  generalize (s.holdF n p) = R at *
  clear h hc he
  unfold pp at *
  go_enter Tryz.func46, Tryz.ntmps46
  go_wp2_with fail
  refine KW.out.mono ?_
  rintro e w1 ⟨rfl, A1, o1⟩
  have B1 := B0.out.only o1 NQ.out
  have A1 := Lib.hid A1
  have o1 := Lib.hid ((Only.of_below (S := y.fp) O0.out).trans o1)
  have q0 := B1.cell_some (i := 0) rfl
  clear B1
  go_wp2_with fail
  go_ret2
  exact ⟨by first | rfl | simp, A1.out, o1.out⟩
end Go.Proofs.YtbelcgjbhpjnpaaGreat.Sh
