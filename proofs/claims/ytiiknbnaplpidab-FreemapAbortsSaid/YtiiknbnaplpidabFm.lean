/- freemap by its contracts. -/
import Derived.Test.YtiiknbnaplpidabFmMath
import Derived.Deep.QuietTactic
import Derived.BigQuiet
namespace Go.Proofs.Ytiiknbnaplpidab.Fm
open Go.RowKit
theorem info_int : (Try.prog.info? 3).map (fun i => (i.zero, i.size, i.bytes)) = some (some (.int .i64 0), 1, 8) := by kernel_rfl

/-- a map lies there: its struct in block b, its row in block g -/
structure MapAt (w : World) (b g : Nat) (l : List Int) : Prop where
  hb : Blk w b 50 #[.slice (some ⟨g, 0, none⟩) l.length l.length]
  hg : Blk w g 3 (ints l).toArray
  hl : l.length ≤ 1024
def mp (b : Nat) : Value := .pointer (some ⟨b, 0, none⟩)
section
variable {w w' : World} {b g : Nat} {l : List Int} {S : List Nat}
theorem MapAt.ne (h : MapAt w b g l) : b ≠ g := h.hb.ne_ h.hg (by decide)
theorem MapAt.c0 (h : MapAt w b g l) : w.cell? ⟨b, 0, none⟩ = some (.slice (some ⟨g, 0, none⟩) l.length l.length) := h.hb.cell_some rfl
theorem MapAt.ck (h : MapAt w b g l) (k : Nat) (hk : k < l.length) : w.cell? ⟨g, k, none⟩ = some (.int .i64 (l.getD k 0)) := by
  refine h.hg.cell_some ?_
  rw [List.getElem?_toArray, ints_get _ _ hk]
  simp [List.getD, List.getElem?_eq_getElem hk]
theorem MapAt.fk (h : MapAt w b g l) (k : Nat) (hk : k < l.length) : w.frozen? ⟨g, k, none⟩ = false := h.hg.frozen k (by simpa using hk)
theorem MapAt.only (h : MapAt w b g l) (ho : Only S w w') (h1 : b ∉ S) (h2 : g ∉ S) : MapAt w' b g l := ⟨h.hb.only ho h1, h.hg.only ho h2, h.hl⟩
theorem MapAt.below (h : MapAt w b g l) (hb : Below w.heap.size w w') : MapAt w' b g l := h.only (S := []) (.of_below hb) (by simp) (by simp)
theorem MapAt.drew (h : MapAt w b g l) : MapAt w.drew b g l := ⟨h.hb, h.hg, h.hl⟩
theorem MapAt.drewN (h : MapAt w b g l) (n : Nat) : MapAt (w.drewN n) b g l := ⟨h.hb, h.hg, h.hl⟩
theorem MapAt.set_ (h : MapAt w b g l) (k : Nat) (x : Int) : MapAt (w.setCell ⟨g, k, none⟩ (.int .i64 x)) b g (l.set k x) := by
  refine ⟨?_, ?_, by simpa using h.hl⟩
  · rw [List.length_set]; exact h.hb.far (by exact h.ne) _
  · have := h.hg.set_ k (.int .i64 x)
    rw [List.setIfInBounds_toArray, ints_set] at this
    exact this
end

theorem new_no (n : Int) (w : World) (h : n < 0 ∨ 1024 < n) :
    Calls Try.prog 21 #[.int .i64 n] w fun e w' => e = .returned (.tuple #[.pointer none, .int .i64 2]) ∧ w = w' := by
  rcases h with h | h
  · go_enter Try.func21, Try.ntmps21
    go_wp2
    go_ret2
    exact ⟨rfl, rfl⟩
  · have h' : ¬ n < 0 := by omega
    go_enter Try.func21, Try.ntmps21
    go_wp2
    go_ret2
    exact ⟨rfl, rfl⟩
theorem new_yes (n : Nat) (w : World) (h : n ≤ 1024) :
    Calls Try.prog 21 #[.int .i64 n] w fun e w' => ∃ b g, e = .returned (.tuple #[mp b, .int .i64 0]) ∧ MapAt w' b g (List.replicate n 0) ∧ Below w.heap.size w w' ∧ w.heap.size ≤ b ∧ w.heap.size ≤ g := by
  have hmk : ∀ w' : World, (Instr.makeSlice 28 (.int .i64 n) (.int .i64 n)).run Try.prog w' = .ok (.slice (some ⟨w'.heap.size, 0, none⟩) n n) (w'.alloc (.cells (madeCells #[.int .i64 0] n) 3)) := fun w' => by
    obtain ⟨i0, hi, hz0, hz1, hz2⟩ := info_parts info_int
    have h := run_make (P := Try.prog) w' 28 3 i0 (.int .i64 0) Try.underlying28 hi hz0 .i64 .i64 n n (by omega) (Int.le_refl _) (by rw [hz2]; omega) (by omega)
    simpa [hz1, Value.cells] using h
  go_enter Try.func21, Try.ntmps21
  go_wp2
  go_ret2
  refine ⟨w.heap.size + 1, w.heap.size, rfl, ⟨?_, ?_, by simpa using h⟩, ((Below.refl _ _).alloc (Nat.le_refl _) _).alloc (by simp) _, by omega, by omega⟩
  · have := Blk.new (w.alloc (.cells (madeCells #[.int .i64 0] n) 3)) 50 #[.slice (some ⟨w.heap.size, 0, none⟩) n n]
    simpa using this
  · have := (Blk.new w 3 (madeCells #[.int .i64 0] n)).alloc (.cells #[.slice (some ⟨w.heap.size, 0, none⟩) n n] 50)
    rw [madeCells_one] at this
    rw [madeCells_one]
    simpa [ints] using this

theorem at_ok {w : World} {b g : Nat} {l : List Int} (m : MapAt w b g l) (i : Int) (h : inF l i = true) :
    Calls Try.prog 24 #[mp b, .int .i64 i] w fun e w' => e = .returned (.int .i64 0) ∧ w = w' := by
  simp only [inF, decide_eq_true_eq] at h
  obtain ⟨h0, h1⟩ := h
  have hl := m.hl
  have c0 := m.c0
  unfold mp
  go_enter Try.func24, Try.ntmps24
  go_wp2
  go_ret
  exact ⟨rfl, rfl⟩
theorem at_no {w : World} {b g : Nat} {l : List Int} (m : MapAt w b g l) (i : Int) (h : inF l i = false) :
    Calls Try.prog 24 #[mp b, .int .i64 i] w fun e w' => e = .returned (.int .i64 3) ∧ w = w' := by
  simp only [inF, decide_eq_false_iff_not] at h
  have h' : i < 0 ∨ (¬ i < 0 ∧ (l.length : Int) ≤ i) := by omega
  clear h
  have hl := m.hl
  have c0 := m.c0
  unfold mp
  rcases h' with h | ⟨h, h1⟩
  all_goals
    go_enter Try.func24, Try.ntmps24
    go_wp2
    go_ret
    exact ⟨rfl, rfl⟩
theorem at_nil (i : Int) (w : World) :
    Calls Try.prog 24 #[.pointer none, .int .i64 i] w fun e w' => e = .returned (.int .i64 1) ∧ w = w' := by
  go_enter Try.func24, Try.ntmps24
  go_wp2
  go_ret
  exact ⟨rfl, rfl⟩

theorem use_any {w : World} {b g : Nat} {l : List Int} (m : MapAt w b g l) (i : Int) :
    Calls Try.prog 20 #[mp b, .int .i64 i] w fun e w' => e = .returned (.int .i64 (useF l i).2) ∧ MapAt w' b g (useF l i).1 ∧ Only [g] w w' := by
  by_cases hin : inF l i = true
  · have hin' := hin
    simp only [inF, decide_eq_true_eq] at hin'
    obtain ⟨h0, h1⟩ := hin'
    obtain ⟨k, rfl⟩ := Int.eq_ofNat_of_zero_le h0
    have hk : k < l.length := by omega
    have c0 := m.c0
    have ck := m.ck k hk
    have fk := m.fk k hk
    by_cases hz : l.getD k 0 = 0
    · have hu : useF l k = (l.set k 1, 0) := by simp only [useF, hin, if_true, Int.toNat_natCast, hz]
      rw [hu]
      rw [hz] at ck
      have HU := Lib.hid (m.set_ k 1)
      clear hz hu
      unfold mp
      go_enter Try.func20, Try.ntmps20
      go_wp2_with fail
      refine (at_ok m k hin).mono ?_
      rintro e w1 ⟨rfl, rfl⟩
      go_wp2_with fail
      go_ret
      exact ⟨rfl, HU.out, (Only.refl _ _).setCell (by simp) _⟩
    · have hu : useF l k = (l, 10) := by simp only [useF, hin, if_true, Int.toNat_natCast, if_neg hz]
      rw [hu]
      clear hu fk
      generalize l.getD k 0 = x at ck hz
      unfold mp
      go_enter Try.func20, Try.ntmps20
      go_wp2_with fail
      refine (at_ok m k hin).mono ?_
      rintro e w1 ⟨rfl, rfl⟩
      go_wp2_with fail
      go_ret
      exact ⟨rfl, m, Only.refl _ _⟩
  · have hin' : inF l i = false := by simpa using hin
    have hu : useF l i = (l, 3) := by simp only [useF, hin']; rfl
    rw [hu]
    clear hu
    unfold mp
    go_enter Try.func20, Try.ntmps20
    go_wp2_with fail
    refine (at_no m i hin').mono ?_
    rintro e w1 ⟨rfl, rfl⟩
    go_wp2_with fail
    go_ret
    exact ⟨rfl, m, Only.refl _ _⟩
end Go.Proofs.Ytiiknbnaplpidab.Fm
