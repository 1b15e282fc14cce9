/- the nil pool by its contracts. -/
import Derived.Test.YtbelcgjbhpjnpaaGreatPb
set_option linter.all false
set_option linter.unusedVariables false
set_option linter.unusedSimpArgs false
namespace Go.Proofs.YtbelcgjbhpjnpaaGreat.Sh
open Go.RowKit Pk Dk Pg
attribute [local go_sem ↓] Go.wp_at_zero Go.wp_at_succ exec_app
set_option maxRecDepth 100000 in
set_option maxHeartbeats 1000000 in
theorem phold_nil (l : Int) (w : World) :
  Calls Tryz.prog 52 #[.pointer none, .int .i64 l] w fun e w' => e = .returned (.tuple #[.string ⟨#[]⟩, .int .i64 1]) ∧ w = w' := by
 go_enter Tryz.func52, Tryz.ntmps52
 go_wp2_with fail
 refine bodyPost_ret (v := .tuple #[.string ⟨#[]⟩, .int .i64 1]) ?_ rfl ⟨rfl, rfl⟩
 simp [results, Tryz.results52, go_sem]
set_option maxRecDepth 100000 in
set_option maxHeartbeats 1000000 in
theorem pheld_nil (l : Int) (w : World) :
  Calls Tryz.prog 129 #[.pointer none, .int .i64 l] w fun e w' => e = .returned (.tuple #[.pointer none, .int .i64 1]) ∧ w = w' := by
 go_enter Tryz.func129, Tryz.ntmps129
 go_wp2_with fail
 refine bodyPost_ret (v := .tuple #[.pointer none, .int .i64 1]) ?_ rfl ⟨rfl, rfl⟩
 simp [results, Tryz.results129, go_sem]
set_option maxRecDepth 100000 in
set_option maxHeartbeats 1000000 in
theorem pwith_nil (l : Int) (f : Value) (w : World) :
  Calls Tryz.prog 120 #[.pointer none, .int .i64 l, f] w fun e w' => e = .returned (.int .i64 1) ∧ w = w' := by
 go_enter Tryz.func120, Tryz.ntmps120
 go_wp2_with fail
 refine (phold_nil _ _).mono ?_
 rintro e w1 ⟨rfl, rfl⟩
 go_wp2_with fail
 go_ret
 exact ⟨by first | rfl | simp, rfl⟩
set_option maxRecDepth 100000 in
set_option maxHeartbeats 1000000 in
theorem pnew_nil (s : ByteArray) (w : World) :
  Calls Tryz.prog 53 #[.pointer none, .string s] w fun e w' => e = .returned (.tuple #[.int .i64 0, .int .i64 1]) ∧ w = w' := by
 go_enter Tryz.func53, Tryz.ntmps53
 go_wp2_with fail
 refine bodyPost_ret (v := .tuple #[.int .i64 0, .int .i64 1]) ?_ rfl ⟨rfl, rfl⟩
 simp [results, Tryz.results53, go_sem]
set_option maxRecDepth 100000 in
set_option maxHeartbeats 1000000 in
theorem pcount_nil (w : World) :
  Calls Tryz.prog 51 #[.pointer none] w fun e w' => e = .returned (.tuple #[.int .i64 0, .int .i64 0, .int .i64 0]) ∧ w = w' := by
 go_enter Tryz.func51, Tryz.ntmps51
 go_wp2_with fail
 refine bodyPost_ret (v := .tuple #[.int .i64 0, .int .i64 0, .int .i64 0]) ?_ rfl ⟨rfl, rfl⟩
 simp [results, Tryz.results51, go_sem]
set_option maxRecDepth 100000 in
set_option maxHeartbeats 1000000 in
theorem plet_nil (l : Int) (w : World) :
  Calls Tryz.prog 56 #[.pointer none, .int .i64 l] w fun e w' => e = .returned (.int .i64 1) ∧ w = w' := by
 go_enter Tryz.func56, Tryz.ntmps56
 go_wp2_with fail
 refine (pheld_nil _ _).mono ?_
 rintro e w1 ⟨rfl, rfl⟩
 go_wp2_with fail
 go_ret
 exact ⟨by first | rfl | simp, rfl⟩
set_option maxRecDepth 100000 in
set_option maxHeartbeats 1000000 in
theorem pset_nil (l : Int) (s : ByteArray) (w : World) :
  Calls Tryz.prog 57 #[.pointer none, .int .i64 l, .string s] w fun e w' => e = .returned (.int .i64 1) ∧ w = w' := by
 go_enter Tryz.func57, Tryz.ntmps57
 go_wp2_with fail
 refine (pheld_nil _ _).mono ?_
 rintro e w1 ⟨rfl, rfl⟩
 go_wp2_with fail
 go_ret
 exact ⟨by first | rfl | simp, rfl⟩
set_option maxRecDepth 100000 in
set_option maxHeartbeats 1000000 in
theorem pdrop_nil (l : Int) (w : World) :
  Calls Tryz.prog 58 #[.pointer none, .int .i64 l] w fun e w' => e = .returned (.int .i64 1) ∧ w = w' := by
 go_enter Tryz.func58, Tryz.ntmps58
 go_wp2_with fail
 go_ret
 exact ⟨by first | rfl | simp, rfl⟩
set_option maxRecDepth 100000 in
set_option maxHeartbeats 1000000 in
theorem pevict_nil (l : Int) (w : World) :
  Calls Tryz.prog 59 #[.pointer none, .int .i64 l] w fun e w' => e = .returned (.int .i64 1) ∧ w = w' := by
 go_enter Tryz.func59, Tryz.ntmps59
 go_wp2_with fail
 go_ret
 exact ⟨by first | rfl | simp, rfl⟩
set_option maxRecDepth 100000 in
set_option maxHeartbeats 1000000 in
theorem pcommit_nil (w : World) :
  Calls Tryz.prog 48 #[.pointer none] w fun e w' => e = .returned (.int .i64 1) ∧ w = w' := by
 go_enter Tryz.func48, Tryz.ntmps48
 go_wp2_with fail
 go_ret
 exact ⟨by first | rfl | simp, rfl⟩
set_option maxRecDepth 100000 in
set_option maxHeartbeats 1000000 in
theorem pabort_nil (w : World) :
  Calls Tryz.prog 50 #[.pointer none] w fun e w' => e = .returned (.bool false) ∧ w = w' := by
 go_enter Tryz.func50, Tryz.ntmps50
 go_wp2_with fail
 go_ret
 exact ⟨by first | rfl | simp, rfl⟩
set_option maxRecDepth 100000 in
set_option maxHeartbeats 1000000 in
theorem ppages_nil (w : World) :
  Calls Tryz.prog 47 #[.pointer none] w fun e w' => e = .returned (.slice none 0 0) ∧ w = w' := by
 go_enter Tryz.func47, Tryz.ntmps47
 go_wp2_with fail
 go_ret
 exact ⟨by first | rfl | simp, rfl⟩
set_option maxRecDepth 100000 in
set_option maxHeartbeats 1000000 in
theorem pstore_nil (w : World) :
  Calls Tryz.prog 60 #[.pointer none] w fun e w' => e = .returned (.pointer none) ∧ w = w' := by
 go_enter Tryz.func60, Tryz.ntmps60
 go_wp2_with fail
 go_ret
 exact ⟨by first | rfl | simp, rfl⟩
set_option maxRecDepth 100000 in
set_option maxHeartbeats 1000000 in
theorem poolnew_nil (n : Int) (w : World) :
  Calls Tryz.prog 54 #[.pointer none, .int .i64 n] w fun e w' => e = .returned (.tuple #[.pointer none, .int .i64 1]) ∧ w = w' := by
 go_enter Tryz.func54, Tryz.ntmps54
 go_wp2_with fail
 refine bodyPost_ret (v := .tuple #[.pointer none, .int .i64 1]) ?_ rfl ⟨rfl, rfl⟩
 simp [results, Tryz.results54, go_sem]
set_option maxRecDepth 100000 in
set_option maxHeartbeats 1000000 in
theorem pget_nil (l : Int) (w : World) :
  Calls Tryz.prog 46 #[.pointer none, .int .i64 l] w fun e w' => e = .returned (.tuple #[.string ⟨#[]⟩, .int .i64 1]) ∧ Below w.heap.size w w' := by
 have B0 := Lib.hid (Blk.new w 9 #[.string ⟨#[]⟩])
 have O0 := Lib.hid (belowAlloc (Below.refl w.heap.size w) (.cells #[.string ⟨#[]⟩] 9))
 have c0 := B0.out.cell_some (i := 0) rfl
 go_enter Tryz.func46, Tryz.ntmps46
 go_wp2_with fail
 refine (pwith_nil _ _ _).mono ?_
 rintro e w1 ⟨rfl, rfl⟩
 go_wp2_with fail
 refine bodyPost_ret (v := .tuple #[.string ⟨#[]⟩, .int .i64 1]) ?_ rfl ⟨rfl, O0.out⟩
 simp [results, Tryz.results46, go_sem]
set_option maxRecDepth 100000 in
set_option maxHeartbeats 1000000 in
theorem pput_nil (l : Int) (s : ByteArray) (w : World) :
  Calls Tryz.prog 45 #[.pointer none, .int .i64 l, .string s] w fun e w' => e = .returned (.int .i64 1) ∧ Below w.heap.size w w' := by
 have O0 := Lib.hid (belowAlloc (belowAlloc (belowAlloc (Below.refl w.heap.size w) (.cells #[.pointer none] 75)) (.cells #[.int .i64 l] 3)) (.cells #[.string s] 9))
 go_enter Tryz.func45, Tryz.ntmps45
 go_wp2_with fail
 go_ret
 exact ⟨by first | rfl | simp, O0.out⟩
set_option maxRecDepth 100000 in
set_option maxHeartbeats 1000000 in
theorem poolnew_bad (b : Nat) (n : Int) (hn : n < 1 ∨ 32 < n) (w : World) :
  Calls Tryz.prog 54 #[sp b, .int .i64 n] w fun e w' => e = .returned (.tuple #[.pointer none, .int .i64 2]) ∧ w = w' := by
 unfold sp
 by_cases h1 : n < 1
 ·go_enter Tryz.func54, Tryz.ntmps54
  go_wp2_with fail
  refine bodyPost_ret (v := .tuple #[.pointer none, .int .i64 2]) ?_ rfl ⟨rfl, rfl⟩
  simp [results, Tryz.results54, go_sem]
 ·have h2 : (32 : Int) < n := by omega
  go_enter Tryz.func54, Tryz.ntmps54
  go_wp2_with fail
  refine bodyPost_ret (v := .tuple #[.pointer none, .int .i64 2]) ?_ rfl ⟨rfl, rfl⟩
  simp [results, Tryz.results54, go_sem]
end Go.Proofs.YtbelcgjbhpjnpaaGreat.Sh
