/- pool by its contracts: Get. -/
import Derived.Test.YtbelcgjbhpjnpaaGreatSh19
namespace Go.Proofs.YtbelcgjbhpjnpaaGreat.Sh
open Go.RowKit Pk Dk Pg
attribute [local go_sem ↓] Go.wp_at_zero Go.wp_at_succ
set_option maxHeartbeats 1000000 in
theorem get1_any (b : ByteArray) (q : Nat) (w : World) (s0 : ByteArray) (B : Blk w q 9 #[.string s0]) :
    Calls Tryz.prog 122 #[.string b, .pointer (some ⟨q, 0, none⟩)] w fun e w' => e = .returned (.int .i64 0) ∧ Blk w' q 9 #[.string b] ∧ Only [q] w w' := by
  have q0 := B.cell_some (i := 0) rfl
  have q1 := B.frozen 0 (by simp)
  have B1 := Lib.hid (show Blk (w.setCell ⟨q, 0, none⟩ (.string b)) q 9 #[.string b] from B.set_ 0 (.string b))
  have O1 := Lib.hid ((Only.refl [q] w).setCell (p := ⟨q, 0, none⟩) (by simp) (.string b))
  clear B
  go_enter Tryz.func122, Tryz.ntmps122
  go_wp2_with fail
  go_ret
  exact ⟨by first | rfl | simp, B1.out, O1.out⟩
set_option maxRecDepth 100000 in
set_option maxHeartbeats 2000000 in
theorem with_bad {w : World} {y : Y} {n q : Nat} {s : PS} (h : AtP w y n s) (p : Int) (hc : CleanL s.l) (he : (s.holdF n p).2.2 ≠ 0) :
    Calls Tryz.prog 120 #[pp y.pb, .int .i64 p, .func (Fn.func 122) #[] #[.pointer (some ⟨q, 0, none⟩)]] w fun e w' => e = .returned (.int .i64 (s.holdF n p).2.2) ∧ AtP w' y n (s.holdF n p).1 ∧ Only y.fp w w' := by
  have KH := Lib.hid (hold_any h p hc)
  have hq : ((s.holdF n p).2.2 != 0) = true := by rw [bne_iff_ne]; exact he
  have hq2 : ((s.holdF n p).2.2 == 0) = false := by rw [beq_eq_false_iff_ne]; exact he
  generalize s.holdF n p = R at *
  clear h hc
  unfold pp at *
  go_enter Tryz.func120, Tryz.ntmps120
  go_wp2_with fail
  refine KH.out.mono ?_
  rintro e w1 ⟨rfl, A1, o1⟩
  have A1 := Lib.hid A1
  have o1 := Lib.hid o1
  go_wp2_with fail
  go_ret
  exact ⟨by first | rfl | simp, A1.out, o1.out⟩
set_option maxRecDepth 100000 in
set_option maxHeartbeats 2000000 in
theorem with_good {w : World} {y : Y} {n q : Nat} {s : PS} (h : AtP w y n s) (p : Int) (hc : CleanL s.l) (he : (s.holdF n p).2.2 = 0) (s0 : ByteArray) (B : Blk w q 9 #[.string s0]) (hq : q ∉ y.fp) (hb : ∀ f ∈ (s.holdF n p).1.l, -1000 ≤ f.held ∧ f.held ≤ 1000000) :
    Calls Tryz.prog 120 #[pp y.pb, .int .i64 p, .func (Fn.func 122) #[] #[.pointer (some ⟨q, 0, none⟩)]] w fun e w' => e = .returned (.int .i64 0) ∧ AtP w' y n ((s.holdF n p).1.letF p).1 ∧ Only (q :: y.fp) w w' ∧ Blk w' q 9 #[.string (s.holdF n p).2.1] := by
  have KH := Lib.hid (hold_any h p hc)
  rw [he] at KH
  generalize s.holdF n p = R at *
  have KL := Lib.hid (fun w' (A : AtP w' y n R.1) => let_any A p hb)
  have HQ := Lib.hid hq
  have HB := Lib.hid B
  clear h hc B hb he hq
  unfold pp at *
  go_enter Tryz.func120, Tryz.ntmps120
  go_wp2_with fail
  refine KH.out.mono ?_
  rintro e w1 ⟨rfl, A1, o1⟩
  have B1 := HB.out.only o1 HQ.out
  have KG := Lib.hid (get1_any R.2.1 q w1 s0 B1)
  have A1 := Lib.hid A1
  have o1 := Lib.hid o1
  clear B1
  go_wp2_with fail
  refine KG.out.mono ?_
  rintro e w2 ⟨rfl, B2, o2⟩
  have A2 := Lib.hid (A1.out.only o2 (fun g hg hm => by simp at hm; subst hm; exact HQ.out hg))
  have B2 := Lib.hid B2
  have o2 := Lib.hid o2
  go_wp2_with fail
  refine (KL.out w2 A2.out).mono ?_
  rintro e w3 ⟨rfl, A3, o3⟩
  have B3 := Lib.hid (B2.out.only o3 HQ.out)
  have A3 := Lib.hid A3
  have o3 := Lib.hid o3
  go_wp2_with fail
  go_ret
  exact ⟨by first | rfl | simp, A3.out, ((o1.out.mono (fun g hg _ => by simp [hg])).trans (o2.out.mono (fun g hg _ => by simp at hg; simp [hg]))).trans (o3.out.mono (fun g hg _ => by simp [hg])), B3.out⟩
end Go.Proofs.YtbelcgjbhpjnpaaGreat.Sh
