/- freemap by its contracts: turn, Commit, Abort, List, Count, Free, Fresh. -/
import Derived.Test.YtiiknbnaplpidabFm2
namespace Go.Proofs.Ytiiknbnaplpidab.Fm
open Go.RowKit

theorem turn_nil (a c : Int) (w : World) :
    Calls Try.prog 23 #[.pointer none, .int .i64 a, .int .i64 c] w fun e w' => e = .returned (.bool false) ∧ w = w' := by
  go_enter Try.func23, Try.ntmps23
  go_wp2
  go_ret
  exact ⟨rfl, rfl⟩
set_option maxHeartbeats 1000000 in
theorem turn_any {w : World} {b g : Nat} {l : List Int} (m : MapAt w b g l) (a c : Int) :
    Calls Try.prog 23 #[mp b, .int .i64 a, .int .i64 c] w fun e w' => e = .returned (.bool true) ∧ MapAt w' b g (turnF a c l) ∧ Only [g] w w' := by
  have hl := m.hl
  have c0 := m.c0
  have HM := Lib.hid m
  clear m
  unfold mp
  go_enter Try.func23, Try.ntmps23
  go_wp2
  go_loopw [7, 8, 16] (fun _ _ i wr => ∃ k : Nat, k ≤ l.length ∧ i = .int .i64 k ∧ MapAt wr b g (turnTo a c l k) ∧ Only [g] w wr) (fun _ _ i _ => l.length - (intOf i).toNat)
  case atStart => exact ⟨0, by omega, rfl, by rw [turnTo_zero]; exact HM.out, Only.refl _ _⟩
  case round =>
    obtain ⟨k, hk, rfl, M, O⟩ := hrel
    have HL := Lib.hid (turnTo_length a c l k)
    by_cases h : k < l.length
    · have c0r : wr.cell? ⟨b, 0, none⟩ = some (.slice (some ⟨g, 0, none⟩) l.length l.length) := by rw [← HL.out]; exact M.c0
      have ck := M.ck k (by rw [HL.out]; exact h)
      have fk := M.fk k (by rw [HL.out]; exact h)
      rw [turnTo_get a c l k h] at ck
      have HS := Lib.hid (turnTo_succ a c l k h)
      have HE := Lib.hid (turnTo_same a c l k h)
      have M3 := Lib.hid (M.set_ k)
      by_cases h3 : l.getD k 0 = 3
      · rw [h3] at ck
        have HX := Lib.hid h3
        clear h3
        go_wp2
        go_roundw
        case rel => exact ⟨k + 1, by omega, by go_num, by rw [HS.out, HX.out]; exact M3.out a, O.setCell (by simp) _⟩
        case measure => simp [intOf]; omega
      · by_cases h2 : l.getD k 0 = 2
        · rw [h2] at ck
          have HX := Lib.hid h2
          clear h3 h2
          go_wp2
          go_roundw
          case rel => exact ⟨k + 1, by omega, by go_num, by rw [HS.out, HX.out]; exact M3.out c, O.setCell (by simp) _⟩
          case measure => simp [intOf]; omega
        · have HX := Lib.hid (HE.out (by rw [turnOne, if_neg h3, if_neg h2]))
          generalize l.getD k 0 = x at *
          go_wp2
          go_roundw
          case rel => exact ⟨k + 1, by omega, by go_num, by rw [HX.out]; exact M, O⟩
          case measure => simp [intOf]; omega
    · have hkl : k = l.length := by omega
      have HX := Lib.hid hkl
      clear hkl
      go_wp2
      go_ret
      exact ⟨rfl, by rw [← turnTo_all, ← HX.out]; exact M, O⟩

theorem commit_nil (w : World) :
    Calls Try.prog 11 #[.pointer none] w fun e w' => e = .returned (.bool false) ∧ w = w' := by
  go_enter Try.func11, Try.ntmps11
  go_wp2_with fail
  refine (turn_nil _ _ _).mono ?_
  rintro e w1 ⟨rfl, rfl⟩
  go_wp2_with fail
  go_ret
  exact ⟨rfl, rfl⟩
theorem commit_any {w : World} {b g : Nat} {l : List Int} (m : MapAt w b g l) :
    Calls Try.prog 11 #[mp b] w fun e w' => e = .returned (.bool true) ∧ MapAt w' b g (turnF 0 1 l) ∧ Only [g] w w' := by
  have K := Lib.hid (turn_any m)
  unfold mp at *
  go_enter Try.func11, Try.ntmps11
  go_wp2_with fail
  refine (K.out _ _).mono ?_
  rintro e w1 ⟨rfl, m1, o1⟩
  go_wp2_with fail
  go_ret
  exact ⟨rfl, m1, o1⟩
theorem abort_nil (w : World) :
    Calls Try.prog 13 #[.pointer none] w fun e w' => e = .returned (.bool false) ∧ w = w' := by
  go_enter Try.func13, Try.ntmps13
  go_wp2_with fail
  refine (turn_nil _ _ _).mono ?_
  rintro e w1 ⟨rfl, rfl⟩
  go_wp2_with fail
  go_ret
  exact ⟨rfl, rfl⟩
theorem abort_any {w : World} {b g : Nat} {l : List Int} (m : MapAt w b g l) :
    Calls Try.prog 13 #[mp b] w fun e w' => e = .returned (.bool true) ∧ MapAt w' b g (turnF 1 0 l) ∧ Only [g] w w' := by
  have K := Lib.hid (turn_any m)
  unfold mp at *
  go_enter Try.func13, Try.ntmps13
  go_wp2_with fail
  refine (K.out _ _).mono ?_
  rintro e w1 ⟨rfl, m1, o1⟩
  go_wp2_with fail
  go_ret
  exact ⟨rfl, m1, o1⟩

/-- append of one number to a slice of the call's own -/
theorem append_int {w : World} {v : Value} {n : Nat} {l : List Int} (S : Slc w 3 1 v n (ints l)) (x : Int) (hn : n ≤ 1000000) :
    ∃ v' w', (Builtin.append_ #[28, 28] 28 #[v, .slice (some ⟨w.heap.size, 0, none⟩) 1 1]).run Try.prog (w.alloc (.cells #[.int .i64 x] 3)) = .ok v' w' ∧ Slc w' 3 1 v' (n + 1) (ints (l ++ [x])) ∧ Only (ownB v) w w' ∧ (∀ g ∈ ownB v', g ∈ ownB v ∨ w.heap.size ≤ g) := by
  obtain ⟨i0, hi, hz0, hz1, hz2⟩ := info_parts info_int
  obtain ⟨v', w', h1, h2, h3, h4⟩ := append_slc (P := Try.prog) (S.alloc (.cells #[.int .i64 x] 3)) 28 28 i0 (.int .i64 0) 8 Try.underlying28 hi hz0 hz1 hz2 rfl (by omega)
    ⟨w.heap.size, 0, none⟩ 1 1 [.int .i64 x] rfl (cells_at (l := [.int .i64 x]) (Blk.new w 3 #[.int .i64 x]) 0 _ (by simp)) (by simp [Value.oneCell']) (by unfold maxLen; omega) (by omega)
  refine ⟨v', w', h1, by rw [ints_append]; exact h2, ((Only.refl _ _).alloc _).trans_of h3 (fun x hx _ => hx), fun g hg => (h4 g hg).imp id (fun h => by simp at h; omega)⟩

set_option maxHeartbeats 1000000 in
theorem list_any {w : World} {b g : Nat} {l : List Int} (m : MapAt w b g l) (kind : Int) :
    Calls Try.prog 10 #[mp b, .int .i64 kind] w fun e w' => ∃ v, e = .returned v ∧ Slc w' 3 1 v (listF l kind).length (ints (listF l kind)) ∧ Below w.heap.size w w' ∧ (∀ x ∈ ownB v, w.heap.size ≤ x) := by
  have hl := m.hl
  have c0 := m.c0
  have HM := Lib.hid m
  clear m
  unfold mp
  go_enter Try.func10, Try.ntmps10
  go_wp2
  go_loopw [5, 6, 7, 16] (fun v _ _ i wr => ∃ k : Nat, k ≤ l.length ∧ i = .int .i64 k ∧ Slc wr 3 1 v (listTo l kind k).length (ints (listTo l kind k)) ∧ Below w.heap.size w wr ∧ (∀ x ∈ ownB v, w.heap.size ≤ x)) (fun _ _ _ i _ => l.length - (intOf i).toNat)
  case atStart => exact ⟨0, by omega, rfl, Slc.nil _ _ _, Below.refl _ _, by simp [ownB]⟩
  case round =>
    obtain ⟨k, hk, rfl, S, O, F⟩ := hrel
    have F := Lib.hid F
    have hlt := listTo_length l kind k
    by_cases h : k < l.length
    · have M := HM.out.below O
      have ck := M.ck k h
      by_cases h3 : l.getD k 0 = kind
      · have HX := Lib.hid (show listTo l kind (k + 1) = listTo l kind k ++ [(k : Int)] by simp only [listTo, if_pos h3])
        rw [h3] at ck
        clear h3 M
        obtain ⟨v', w', ea, S', O', F'⟩ := append_int S k (by omega)
        have F' := Lib.hid F'
        have EA := Lib.hid ea
        clear ea
        generalize listTo l kind k = L at *
        go_wp2_with (at_builtin; refine wpList_append_run rfl _ _ _ rfl _ _ rfl rfl EA.out ?_)
        go_roundw
        case rel => exact ⟨k + 1, by omega, by go_num, by rw [HX.out]; simpa using S', O.trans (O'.below_of O.size F.out), fun x hx => (F'.out x hx).elim (F.out x) (fun h => Nat.le_trans O.size h)⟩
        case measure => simp [intOf]; omega
      · have HX := Lib.hid (show listTo l kind (k + 1) = listTo l kind k by simp only [listTo, if_neg h3]; simp)
        generalize l.getD k 0 = x at *
        clear M
        have hne : (x == kind) = false := by simpa using h3
        go_wp2
        go_roundw
        case rel => exact ⟨k + 1, by omega, by go_num, by rw [HX.out]; exact S, O, F.out⟩
        case measure => simp [intOf]; omega
    · have hkl : k = l.length := by omega
      have HX := Lib.hid hkl
      clear hkl
      go_wp2
      go_ret
      refine ⟨_, rfl, ?_, O, F.out⟩
      unfold listF
      rw [← HX.out]
      exact S
theorem list_nil (kind : Int) (w : World) :
    Calls Try.prog 10 #[.pointer none, .int .i64 kind] w fun e w' => e = .returned (.slice none 0 0) ∧ w = w' := by
  go_enter Try.func10, Try.ntmps10
  go_wp2
  go_ret
  exact ⟨rfl, rfl⟩
end Go.Proofs.Ytiiknbnaplpidab.Fm
