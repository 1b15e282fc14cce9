/- freemap by its contracts: Count, Free, Fresh. -/
import Derived.Test.YtiiknbnaplpidabFm3
namespace Go.Proofs.Ytiiknbnaplpidab.Fm
open Go.RowKit

theorem slc_len {w : World} {e : TypeId} {size n : Nat} {v : Value} {l : List Value} (S : Slc w e size v n l) : ∃ A c, v = .slice A n c := by
  rcases S.2 with ⟨rfl, rfl⟩ | ⟨g, cap, rest, rfl, _⟩
  · exact ⟨none, 0, rfl⟩
  · exact ⟨_, cap, rfl⟩
theorem count1_any {w : World} {b g x : Nat} {l : List Int} (m : MapAt w b g l) (kind : Int) (hx : w.cell? ⟨x, 0, none⟩ = some (mp b)) :
    Calls Try.prog 26 #[.int .i64 kind, .pointer (some ⟨x, 0, none⟩)] w fun e w' => e = .returned (.int .i64 (listF l kind).length) ∧ Below w.heap.size w w' := by
  have K := Lib.hid (list_any m kind)
  unfold mp at *
  go_enter Try.func26, Try.ntmps26
  go_wp2_with fail
  refine (K.out).mono ?_
  rintro e w1 ⟨v, rfl, S, hb, -⟩
  obtain ⟨A, c, rfl⟩ := slc_len S
  go_wp2_with fail
  go_ret
  exact ⟨rfl, hb⟩
theorem count1_nil {w : World} {x : Nat} (kind : Int) (hx : w.cell? ⟨x, 0, none⟩ = some (.pointer none)) :
    Calls Try.prog 26 #[.int .i64 kind, .pointer (some ⟨x, 0, none⟩)] w fun e w' => e = .returned (.int .i64 0) ∧ w = w' := by
  go_enter Try.func26, Try.ntmps26
  go_wp2_with fail
  refine (list_nil _ _).mono ?_
  rintro e w1 ⟨rfl, rfl⟩
  go_wp2_with fail
  go_ret
  exact ⟨rfl, rfl⟩
set_option maxHeartbeats 400000 in
theorem count_any {w : World} {b g : Nat} {l : List Int} (m : MapAt w b g l) :
    Calls Try.prog 16 #[mp b] w fun e w' => e = .returned (.tuple #[.int .i64 (listF l 0).length, .int .i64 (listF l 1).length, .int .i64 (listF l 2).length, .int .i64 (listF l 3).length]) ∧ Below w.heap.size w w' := by
  have m0 := m.below ((Below.refl _ _).alloc (Nat.le_refl _) (.cells #[mp b] 23))
  have B0 := Blk.new w 23 #[mp b]
  have O0 := (Below.refl w.heap.size w).alloc (Nat.le_refl _) (.cells #[mp b] 23)
  unfold mp at *
  go_enter Try.func16, Try.ntmps16
  go_wp2_with fail
  refine (count1_any m0 0 (B0.cell_some rfl)).mono ?_
  rintro e w1 ⟨rfl, hb1⟩
  have m1 := m0.below hb1
  have B1 := B0.below hb1 B0.lt
  have O1 := bstep O0 hb1
  clear m0 B0 O0 hb1
  go_wp2_with fail
  refine (count1_any m1 1 (B1.cell_some rfl)).mono ?_
  rintro e w2 ⟨rfl, hb2⟩
  have m2 := m1.below hb2
  have B2 := B1.below hb2 B1.lt
  have O2 := bstep O1 hb2
  clear m1 B1 O1 hb2
  go_wp2_with fail
  refine (count1_any m2 2 (B2.cell_some rfl)).mono ?_
  rintro e w3 ⟨rfl, hb3⟩
  have m3 := m2.below hb3
  have B3 := B2.below hb3 B2.lt
  have O3 := bstep O2 hb3
  clear m2 B2 O2 hb3
  go_wp2_with fail
  refine (count1_any m3 3 (B3.cell_some rfl)).mono ?_
  rintro e w4 ⟨rfl, hb4⟩
  have O4 := bstep O3 hb4
  clear m3 B3 O3 hb4
  go_wp2_with fail
  refine bodyPost_ret (v := .tuple #[.int .i64 (listF l 0).length, .int .i64 (listF l 1).length, .int .i64 (listF l 2).length, .int .i64 (listF l 3).length]) ?_ rfl ⟨rfl, O4⟩
  simp [results, Try.results16, go_sem]
set_option maxHeartbeats 400000 in
theorem count_nil (w : World) :
    Calls Try.prog 16 #[.pointer none] w fun e w' => e = .returned (.tuple #[.int .i64 0, .int .i64 0, .int .i64 0, .int .i64 0]) ∧ Below w.heap.size w w' := by
  have B0 := Blk.new w 23 #[.pointer none]
  have O0 := (Below.refl w.heap.size w).alloc (Nat.le_refl _) (.cells #[.pointer none] 23)
  have c0 := B0.cell_some (i := 0) rfl
  clear B0
  go_enter Try.func16, Try.ntmps16
  go_wp2_with (go_at_call 26; refine (count1_nil _ c0).mono ?_; rintro e w1 ⟨rfl, rfl⟩)
  refine bodyPost_ret (v := .tuple #[.int .i64 0, .int .i64 0, .int .i64 0, .int .i64 0]) ?_ rfl ⟨rfl, O0⟩
  simp [results, Try.results16, go_sem]
theorem free_any {w : World} {b g : Nat} {l : List Int} (m : MapAt w b g l) :
    Calls Try.prog 18 #[mp b] w fun e w' => e = .returned (.int .i64 (listF l 0).length) ∧ Below w.heap.size w w' := by
  have K := Lib.hid (list_any m 0)
  unfold mp at *
  go_enter Try.func18, Try.ntmps18
  go_wp2_with fail
  refine (K.out).mono ?_
  rintro e w1 ⟨v, rfl, S, hb, -⟩
  obtain ⟨A, c, rfl⟩ := slc_len S
  go_wp2_with fail
  go_ret
  exact ⟨rfl, hb⟩
theorem free_nil (w : World) :
    Calls Try.prog 18 #[.pointer none] w fun e w' => e = .returned (.int .i64 0) ∧ w = w' := by
  go_enter Try.func18, Try.ntmps18
  go_wp2_with fail
  refine (list_nil _ _).mono ?_
  rintro e w1 ⟨rfl, rfl⟩
  go_wp2_with fail
  go_ret
  exact ⟨rfl, rfl⟩
def freshF (l : List Int) (i : Int) : Bool := inF l i && (l.getD i.toNat 0 == 2)
theorem fresh_any {w : World} {b g : Nat} {l : List Int} (m : MapAt w b g l) (i : Int) :
    Calls Try.prog 19 #[mp b, .int .i64 i] w fun e w' => e = .returned (.bool (freshF l i)) ∧ w = w' := by
  by_cases hin : inF l i = true
  · have hin' := hin
    simp only [inF, decide_eq_true_eq] at hin'
    obtain ⟨h0, h1⟩ := hin'
    obtain ⟨k, rfl⟩ := Int.eq_ofNat_of_zero_le h0
    have hk : k < l.length := by omega
    have c0 := m.c0
    have ck := m.ck k hk
    have HF := Lib.hid (show freshF l k = (l.getD k 0 == 2) by simp only [freshF, hin, Bool.true_and, Int.toNat_natCast])
    generalize l.getD k 0 = x at ck HF
    unfold mp
    go_enter Try.func19, Try.ntmps19
    go_wp2_with fail
    refine (at_ok m k hin).mono ?_
    rintro e w1 ⟨rfl, rfl⟩
    go_wp2_with fail
    go_ret
    exact ⟨by rw [HF.out]; rfl, rfl⟩
  · have hin' : inF l i = false := by simpa using hin
    have HF := Lib.hid (show freshF l i = false by simp only [freshF, hin', Bool.false_and])
    unfold mp
    go_enter Try.func19, Try.ntmps19
    go_wp2_with fail
    refine (at_no m i hin').mono ?_
    rintro e w1 ⟨rfl, rfl⟩
    go_wp2_with fail
    go_ret
    exact ⟨by rw [HF.out]; rfl, rfl⟩
theorem fresh_nil (i : Int) (w : World) :
    Calls Try.prog 19 #[.pointer none, .int .i64 i] w fun e w' => e = .returned (.bool false) ∧ w = w' := by
  go_enter Try.func19, Try.ntmps19
  go_wp2_with fail
  refine (at_nil i _).mono ?_
  rintro e w1 ⟨rfl, rfl⟩
  go_wp2_with fail
  go_ret
  exact ⟨rfl, rfl⟩
theorem use_nil (i : Int) (w : World) :
    Calls Try.prog 20 #[.pointer none, .int .i64 i] w fun e w' => e = .returned (.int .i64 1) ∧ w = w' := by
  go_enter Try.func20, Try.ntmps20
  go_wp2_with fail
  refine (at_nil i _).mono ?_
  rintro e w1 ⟨rfl, rfl⟩
  go_wp2_with fail
  go_ret
  exact ⟨rfl, rfl⟩
theorem leave_nil (i : Int) (w : World) :
    Calls Try.prog 12 #[.pointer none, .int .i64 i] w fun e w' => e = .returned (.int .i64 1) ∧ w = w' := by
  go_enter Try.func12, Try.ntmps12
  go_wp2_with fail
  refine (at_nil i _).mono ?_
  rintro e w1 ⟨rfl, rfl⟩
  go_wp2_with fail
  go_ret
  exact ⟨rfl, rfl⟩
end Go.Proofs.Ytiiknbnaplpidab.Fm
