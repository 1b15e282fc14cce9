/- what becomes of each page, in plain lists. -/
import Derived.Test.YtbelcgjbhpjnpaaGreatKa
import Derived.Deep.QuietTactic
import Derived.BigQuiet
set_option linter.all false
set_option linter.unusedVariables false
set_option linter.unusedSimpArgs false
set_option maxRecDepth 100000
namespace Go.Proofs.YtbelcgjbhpjnpaaGreat.Fm
open Go.RowKit

def ints (l : List Int) : List Value := l.map (Value.int .i64)
@[simp] theorem ints_length (l : List Int) : (ints l).length = l.length := by simp [ints]
theorem ints_get (l : List Int) (k : Nat) (h : k < l.length) : (ints l)[k]? = some (.int .i64 l[k]) := by simp [ints, h]
theorem ints_set (l : List Int) (k : Nat) (x : Int) : (ints l).set k (.int .i64 x) = ints (l.set k x) := by simp [ints]
theorem ints_append (l m : List Int) : ints (l ++ m) = ints l ++ ints m := by simp [ints]
theorem ints_one (l : List Int) : ∀ u ∈ ints l, u.oneCell' = true := by
 intro u hu
 obtain ⟨x, _, rfl⟩ := List.mem_map.1 hu
 rfl

def inF (l : List Int) (i : Int) : Bool := decide (0 ≤ i ∧ i < l.length)
def useF (l : List Int) (i : Int) : List Int × Int :=
 if inF l i then (if l.getD i.toNat 0 = 0 then (l.set i.toNat 1, 0) else (l, 10)) else (l, 3)
def leaveF (l : List Int) (i : Int) : List Int × Int :=
 if inF l i then (if l.getD i.toNat 0 = 2 then (l.set i.toNat 0, 0) else if l.getD i.toNat 0 = 1 then (l.set i.toNat 3, 0) else (l, 9)) else (l, 3)
def firstF (l : List Int) (k : Int) : Nat := l.findIdx (· == k)
def takeF (l : List Int) : List Int × Int × Int :=
 if firstF l 0 < l.length then (l.set (firstF l 0) 2, firstF l 0, 0) else (l, 0, 11)
def turnOne (leaving fresh k : Int) : Int := if k = 3 then leaving else if k = 2 then fresh else k
def turnF (leaving fresh : Int) (l : List Int) : List Int := l.map (turnOne leaving fresh)
/-- the pages of a kind among the first n -/
def listTo (l : List Int) (k : Int) : Nat → List Int
 | 0 => []
 | n + 1 => listTo l k n ++ if l.getD n 0 = k then [(n : Int)] else []
def listF (l : List Int) (k : Int) : List Int := listTo l k l.length
theorem listTo_length (l : List Int) (k : Int) (n : Nat) : (listTo l k n).length ≤ n := by
 induction n with
 | zero => simp [listTo]
 | succ n ih => simp only [listTo, List.length_append]; split <;> simp <;> omega
theorem turnF_length (a b : Int) (l : List Int) : (turnF a b l).length = l.length := by simp [turnF]
/-- the first k are turned -/
def turnTo (a b : Int) (l : List Int) (k : Nat) : List Int := (l.take k).map (turnOne a b) ++ l.drop k
theorem turnTo_length (a b : Int) (l : List Int) (k : Nat) : (turnTo a b l k).length = l.length := by
 simp [turnTo]; omega
theorem turnTo_zero (a b : Int) (l : List Int) : turnTo a b l 0 = l := by simp [turnTo]
theorem turnTo_all (a b : Int) (l : List Int) : turnTo a b l l.length = turnF a b l := by simp [turnTo, turnF]
theorem turnTo_get (a b : Int) (l : List Int) (k : Nat) (h : k < l.length) : (turnTo a b l k).getD k 0 = l.getD k 0 := by
 unfold turnTo
 simp only [List.getD]
 rw [List.getElem?_append_right (by simp; omega)]
 simp [Nat.min_eq_left (Nat.le_of_lt h)]
theorem turnTo_succ (a b : Int) (l : List Int) (k : Nat) (h : k < l.length) : turnTo a b l (k + 1) = (turnTo a b l k).set k (turnOne a b (l.getD k 0)) := by
 have hk : l.getD k 0 = l[k] := by simp [List.getD, List.getElem?_eq_getElem h]
 have h0 : k - ((l.take k).map (turnOne a b)).length = 0 := by simp; omega
 rw [turnTo, turnTo, hk, List.take_succ_eq_append_getElem h, List.map_append, List.append_assoc, List.set_append_right _ _ (by simp; omega), h0, List.drop_eq_getElem_cons h]
 rfl
theorem set_getD (l : List Int) (k : Nat) : l.set k (l.getD k 0) = l := by
 rcases Nat.lt_or_ge k l.length with h | h
 ·simp only [List.getD, List.getElem?_eq_getElem h, Option.getD_some]; exact List.set_getElem_self h
 ·exact List.set_eq_of_length_le h
theorem turnTo_same (a b : Int) (l : List Int) (k : Nat) (h : k < l.length) (h3 : turnOne a b (l.getD k 0) = l.getD k 0) : turnTo a b l (k + 1) = turnTo a b l k := by
 rw [turnTo_succ a b l k h, h3, ← turnTo_get a b l k h, set_getD]
end Go.Proofs.YtbelcgjbhpjnpaaGreat.Fm

/- freemap by its contracts. -/
namespace Go.Proofs.YtbelcgjbhpjnpaaGreat.Fm
open Go.RowKit
theorem info_int : (Tryz.prog.info? 3).map (fun i => (i.zero, i.size, i.bytes)) = some (some (.int .i64 0), 1, 8) := by kernel_rfl

/-- a map lies there: its struct in block b, its row in block g -/
structure MapAt (w : World) (b g : Nat) (l : List Int) : Prop where
 hb : Blk w b 181 #[.slice (some ⟨g, 0, none⟩) l.length l.length]
 hg : Blk w g 3 (ints l).toArray
 hl : l.length ≤ 1024
def mp (b : Nat) : Value := .pointer (some ⟨b, 0, none⟩)
section
variable {w w' : World} {b g : Nat} {l : List Int} {S : List Nat}
theorem MapAt.ne (h : MapAt w b g l) : b ≠ g := h.hb.ne_ h.hg (by decide)
theorem MapAt.c0 (h : MapAt w b g l) : w.cell? ⟨b, 0, none⟩ = some (.slice (some ⟨g, 0, none⟩) l.length l.length) := h.hb.cell_some rfl
theorem MapAt.ck (h : MapAt w b g l) (k : Nat) (hk : k < l.length) : w.cell? ⟨g, k, none⟩ = some (.int .i64 (l.getD k 0)) := by
 refine h.hg.cell_some ?_
 rw [List.getElem?_toArray, ints_get _ _ hk]
 simp [List.getD, List.getElem?_eq_getElem hk]
theorem MapAt.fk (h : MapAt w b g l) (k : Nat) (hk : k < l.length) : w.frozen? ⟨g, k, none⟩ = false := h.hg.frozen k (by simpa using hk)
theorem MapAt.only (h : MapAt w b g l) (ho : Only S w w') (h1 : b ∉ S) (h2 : g ∉ S) : MapAt w' b g l := ⟨h.hb.only ho h1, h.hg.only ho h2, h.hl⟩
theorem MapAt.below (h : MapAt w b g l) (hb : Below w.heap.size w w') : MapAt w' b g l := h.only (S := []) (.of_below hb) (by simp) (by simp)
theorem MapAt.drew (h : MapAt w b g l) : MapAt w.drew b g l := ⟨h.hb, h.hg, h.hl⟩
theorem MapAt.drewN (h : MapAt w b g l) (n : Nat) : MapAt (w.drewN n) b g l := ⟨h.hb, h.hg, h.hl⟩
theorem MapAt.set_ (h : MapAt w b g l) (k : Nat) (x : Int) : MapAt (w.setCell ⟨g, k, none⟩ (.int .i64 x)) b g (l.set k x) := by
 refine ⟨?_, ?_, by simpa using h.hl⟩
 ·rw [List.length_set]; exact h.hb.far (by exact h.ne) _
 ·have := h.hg.set_ k (.int .i64 x)
  rw [List.setIfInBounds_toArray, ints_set] at this
  exact this
end

theorem new_no (n : Int) (w : World) (h : n < 0 ∨ 1024 < n) :
  Calls Tryz.prog 93 #[.int .i64 n] w fun e w' => e = .returned (.tuple #[.pointer none, .int .i64 2]) ∧ w = w' := by
 rcases h with h | h
 ·go_enter Tryz.func93, Tryz.ntmps93
  go_wp2
  go_ret2
  exact ⟨rfl, rfl⟩
 ·have h' : ¬ n < 0 := by omega
  go_enter Tryz.func93, Tryz.ntmps93
  go_wp2
  go_ret2
  exact ⟨rfl, rfl⟩
theorem new_yes (n : Nat) (w : World) (h : n ≤ 1024) :
  Calls Tryz.prog 93 #[.int .i64 n] w fun e w' => ∃ b g, e = .returned (.tuple #[mp b, .int .i64 0]) ∧ MapAt w' b g (List.replicate n 0) ∧ Below w.heap.size w w' ∧ w.heap.size ≤ b ∧ w.heap.size ≤ g := by
 have hmk : ∀ w' : World, (Instr.makeSlice 52 (.int .i64 n) (.int .i64 n)).run Tryz.prog w' = .ok (.slice (some ⟨w'.heap.size, 0, none⟩) n n) (w'.alloc (.cells (madeCells #[.int .i64 0] n) 3)) := fun w' => by
  obtain ⟨i0, hi, hz0, hz1, hz2⟩ := info_parts info_int
  have h := run_make (P := Tryz.prog) w' 52 3 i0 (.int .i64 0) Tryz.underlying52 hi hz0 .i64 .i64 n n (by omega) (Int.le_refl _) (by rw [hz2]; omega) (by omega)
  simpa [hz1, Value.cells] using h
 go_enter Tryz.func93, Tryz.ntmps93
 go_wp2
 go_ret2
 refine ⟨w.heap.size + 1, w.heap.size, rfl, ⟨?_, ?_, by simpa using h⟩, ((Below.refl _ _).alloc (Nat.le_refl _) _).alloc (by simp) _, by omega, by omega⟩
 ·have := Blk.new (w.alloc (.cells (madeCells #[.int .i64 0] n) 3)) 181 #[.slice (some ⟨w.heap.size, 0, none⟩) n n]
  simpa using this
 ·have := (Blk.new w 3 (madeCells #[.int .i64 0] n)).alloc (.cells #[.slice (some ⟨w.heap.size, 0, none⟩) n n] 181)
  rw [madeCells_one] at this
  rw [madeCells_one]
  simpa [ints] using this

theorem at_ok {w : World} {b g : Nat} {l : List Int} (m : MapAt w b g l) (i : Int) (h : inF l i = true) :
  Calls Tryz.prog 161 #[mp b, .int .i64 i] w fun e w' => e = .returned (.int .i64 0) ∧ w = w' := by
 simp only [inF, decide_eq_true_eq] at h
 obtain ⟨h0, h1⟩ := h
 have hl := m.hl
 have c0 := m.c0
 unfold mp
 go_enter Tryz.func161, Tryz.ntmps161
 go_wp2
 go_ret
 exact ⟨rfl, rfl⟩
theorem at_no {w : World} {b g : Nat} {l : List Int} (m : MapAt w b g l) (i : Int) (h : inF l i = false) :
  Calls Tryz.prog 161 #[mp b, .int .i64 i] w fun e w' => e = .returned (.int .i64 3) ∧ w = w' := by
 simp only [inF, decide_eq_false_iff_not] at h
 have h' : i < 0 ∨ (¬ i < 0 ∧ (l.length : Int) ≤ i) := by omega
 clear h
 have hl := m.hl
 have c0 := m.c0
 unfold mp
 rcases h' with h | ⟨h, h1⟩
 all_goals
  go_enter Tryz.func161, Tryz.ntmps161
  go_wp2
  go_ret
  exact ⟨rfl, rfl⟩
theorem at_nil (i : Int) (w : World) :
  Calls Tryz.prog 161 #[.pointer none, .int .i64 i] w fun e w' => e = .returned (.int .i64 1) ∧ w = w' := by
 go_enter Tryz.func161, Tryz.ntmps161
 go_wp2
 go_ret
 exact ⟨rfl, rfl⟩

theorem use_any {w : World} {b g : Nat} {l : List Int} (m : MapAt w b g l) (i : Int) :
  Calls Tryz.prog 156 #[mp b, .int .i64 i] w fun e w' => e = .returned (.int .i64 (useF l i).2) ∧ MapAt w' b g (useF l i).1 ∧ Only [g] w w' := by
 by_cases hin : inF l i = true
 ·have hin' := hin
  simp only [inF, decide_eq_true_eq] at hin'
  obtain ⟨h0, h1⟩ := hin'
  obtain ⟨k, rfl⟩ := Int.eq_ofNat_of_zero_le h0
  have hk : k < l.length := by omega
  have c0 := m.c0
  have ck := m.ck k hk
  have fk := m.fk k hk
  by_cases hz : l.getD k 0 = 0
  ·have hu : useF l k = (l.set k 1, 0) := by simp only [useF, hin, if_true, Int.toNat_natCast, hz]
   rw [hu]
   rw [hz] at ck
   have HU := Lib.hid (m.set_ k 1)
   clear hz hu
   unfold mp
   go_enter Tryz.func156, Tryz.ntmps156
   go_wp2_with fail
   refine (at_ok m k hin).mono ?_
   rintro e w1 ⟨rfl, rfl⟩
   go_wp2_with fail
   go_ret
   exact ⟨rfl, HU.out, (Only.refl _ _).setCell (by simp) _⟩
  ·have hu : useF l k = (l, 10) := by simp only [useF, hin, if_true, Int.toNat_natCast, if_neg hz]
   rw [hu]
   clear hu fk
   generalize l.getD k 0 = x at ck hz
   unfold mp
   go_enter Tryz.func156, Tryz.ntmps156
   go_wp2_with fail
   refine (at_ok m k hin).mono ?_
   rintro e w1 ⟨rfl, rfl⟩
   go_wp2_with fail
   go_ret
   exact ⟨rfl, m, Only.refl _ _⟩
 ·have hin' : inF l i = false := by simpa using hin
  have hu : useF l i = (l, 3) := by simp only [useF, hin']; rfl
  rw [hu]
  clear hu
  unfold mp
  go_enter Tryz.func156, Tryz.ntmps156
  go_wp2_with fail
  refine (at_no m i hin').mono ?_
  rintro e w1 ⟨rfl, rfl⟩
  go_wp2_with fail
  go_ret
  exact ⟨rfl, m, Only.refl _ _⟩
end Go.Proofs.YtbelcgjbhpjnpaaGreat.Fm

/- freemap by its contracts: Index, first, Take, Leave, turn, Commit, Abort. -/
namespace Go.Proofs.YtbelcgjbhpjnpaaGreat.Fm
open Go.RowKit

theorem leave_any {w : World} {b g : Nat} {l : List Int} (m : MapAt w b g l) (i : Int) :
  Calls Tryz.prog 101 #[mp b, .int .i64 i] w fun e w' => e = .returned (.int .i64 (leaveF l i).2) ∧ MapAt w' b g (leaveF l i).1 ∧ Only [g] w w' := by
 by_cases hin : inF l i = true
 ·have hin' := hin
  simp only [inF, decide_eq_true_eq] at hin'
  obtain ⟨h0, h1⟩ := hin'
  obtain ⟨k, rfl⟩ := Int.eq_ofNat_of_zero_le h0
  have hk : k < l.length := by omega
  have c0 := m.c0
  have ck := m.ck k hk
  have fk := m.fk k hk
  by_cases hz : l.getD k 0 = 2
  ·have hu : leaveF l k = (l.set k 0, 0) := by simp only [leaveF, hin, if_true, Int.toNat_natCast, hz]
   rw [hu]
   rw [hz] at ck
   have HU := Lib.hid (m.set_ k 0)
   clear hz hu
   unfold mp
   go_enter Tryz.func101, Tryz.ntmps101
   go_wp2_with fail
   refine (at_ok m k hin).mono ?_
   rintro e w1 ⟨rfl, rfl⟩
   go_wp2_with fail
   go_ret
   exact ⟨rfl, HU.out, (Only.refl _ _).setCell (by simp) _⟩
  ·by_cases hz1 : l.getD k 0 = 1
   ·have hu : leaveF l k = (l.set k 3, 0) := by simp only [leaveF, hin, if_true, Int.toNat_natCast, hz1]; rfl
    rw [hu]
    rw [hz1] at ck
    have HU := Lib.hid (m.set_ k 3)
    clear hz hz1 hu
    unfold mp
    go_enter Tryz.func101, Tryz.ntmps101
    go_wp2_with fail
    refine (at_ok m k hin).mono ?_
    rintro e w1 ⟨rfl, rfl⟩
    go_wp2_with fail
    go_ret
    exact ⟨rfl, HU.out, (Only.refl _ _).setCell (by simp) _⟩
   ·have hu : leaveF l k = (l, 9) := by simp only [leaveF, hin, if_true, Int.toNat_natCast, if_neg hz, if_neg hz1]
    rw [hu]
    clear hu fk
    generalize l.getD k 0 = x at ck hz hz1
    unfold mp
    go_enter Tryz.func101, Tryz.ntmps101
    go_wp2_with fail
    refine (at_ok m k hin).mono ?_
    rintro e w1 ⟨rfl, rfl⟩
    go_wp2_with fail
    go_ret
    exact ⟨rfl, m, Only.refl _ _⟩
 ·have hin' : inF l i = false := by simpa using hin
  have hu : leaveF l i = (l, 3) := by simp only [leaveF, hin']; rfl
  rw [hu]
  clear hu
  unfold mp
  go_enter Tryz.func101, Tryz.ntmps101
  go_wp2_with fail
  refine (at_no m i hin').mono ?_
  rintro e w1 ⟨rfl, rfl⟩
  go_wp2_with fail
  go_ret
  exact ⟨rfl, m, Only.refl _ _⟩

theorem first_ge (l : List Int) (k : Int) (n : Nat) (hn : n ≤ l.length) (h : ∀ j, j < n → l.getD j 0 ≠ k) : n ≤ firstF l k := by
 rcases Nat.lt_or_ge (firstF l k) n with hlt | hge
 ·have h1 : l.findIdx (· == k) < l.length := by unfold firstF at hlt; omega
  have h2 := List.findIdx_getElem (w := h1)
  have h3 := h _ hlt
  unfold firstF at h3
  simp only [List.getD, List.getElem?_eq_getElem h1, Option.getD_some] at h3
  exact absurd (by simpa using h2) h3
 ·exact hge
theorem first_eq (l : List Int) (k : Int) (n : Nat) (hn : n < l.length) (h : ∀ j, j < n → l.getD j 0 ≠ k) (hk : l.getD n 0 = k) : firstF l k = n := by
 have h1 := first_ge l k n (by omega) h
 have h2 : firstF l k ≤ n := by
  unfold firstF
  have hg : l[n] = k := by simpa [List.getD, List.getElem?_eq_getElem hn] using hk
  rcases Nat.lt_or_ge n (l.findIdx (· == k)) with hlt | hge
  ·have := List.not_of_lt_findIdx hlt
   simp [hg] at this
  ·exact hge
 omega
theorem first_none (l : List Int) (k : Int) (h : ∀ j, j < l.length → l.getD j 0 ≠ k) : firstF l k = l.length := by
 have := first_ge l k l.length (Nat.le_refl _) h
 have h2 : firstF l k ≤ l.length := List.findIdx_le_length
 omega
def indexF (l : List Int) (k : Int) : Int := if firstF l k < l.length then (firstF l k : Int) else -1

theorem index_any (g n c : Nat) (l : List Int) (hn : n = l.length) (hm : n ≤ 1000000) (k : Int) (w : World) (hc : ∀ j, j < l.length → w.cell? ⟨g, j, none⟩ = some (.int .i64 (l.getD j 0))) :
  Calls Tryz.prog 87 #[.slice (some ⟨g, 0, none⟩) n c, .int .i64 k] w fun e w' => e = .returned (.int .i64 (indexF l k)) ∧ w = w' := by
 subst hn
 go_enter Tryz.func87, Tryz.ntmps87
 go_wp2
 go_loop [5, 8] (fun _ i => ∃ j : Nat, j ≤ l.length ∧ i = .int .i64 j ∧ Hid (∀ x, x < j → l.getD x 0 ≠ k)) (fun _ i => l.length - (intOf i).toNat)
 case atStart => exact ⟨0, by omega, rfl, Lib.hid (by omega)⟩
 case round =>
  obtain ⟨j, hj, rfl, H⟩ := hrel
  by_cases h : j < l.length
  ·have cj := hc j h
   clear hc
   by_cases hk : l.getD j 0 = k
   ·have he : indexF l k = j := by unfold indexF; rw [first_eq l k j h H.out hk, if_pos h]
    have HE := Lib.hid he
    clear he
    rw [hk] at cj
    clear hk
    go_wp2
    go_ret
    exact ⟨by rw [HE.out]; rfl, rfl⟩
   ·have H2 := Lib.hid (show ∀ x, x < j + 1 → l.getD x 0 ≠ k from fun x hx => by
     rcases Nat.lt_or_ge x j with h1 | h1
     ·exact H.out x h1
     ·have : x = j := by omega
      subst this; exact hk)
    have hk' : (k == l.getD j 0) = false := by simp; exact fun e => hk e.symm
    clear hk
    generalize l.getD j 0 = y at *
    go_wp2
    go_round
    case rel => exact ⟨j + 1, by omega, by go_num, H2⟩
    case measure => simp [intOf]; omega
  ·have hjl : j = l.length := by omega
   have he : indexF l k = -1 := by
    unfold indexF; rw [first_none l k (by rw [← hjl]; exact H.out), if_neg (by omega)]
   have HE := Lib.hid he
   clear he hjl hc
   go_wp2
   go_ret
   exact ⟨by rw [HE.out]; rfl, rfl⟩

theorem first_any {w : World} {b g : Nat} {l : List Int} (m : MapAt w b g l) (k : Int) :
  Calls Tryz.prog 163 #[mp b, .int .i64 k] w fun e w' => e = .returned (.int .i64 (indexF l k)) ∧ w = w' := by
 have hl := m.hl
 have c0 := m.c0
 have HC := Lib.hid m.ck
 unfold mp
 go_enter Tryz.func163, Tryz.ntmps163
 go_wp2_with fail
 refine (index_any g _ _ l rfl (by omega) k _ HC.out).mono ?_
 rintro e w1 ⟨rfl, rfl⟩
 go_wp2_with fail
 go_ret
 exact ⟨rfl, rfl⟩

theorem take_nil (w : World) :
  Calls Tryz.prog 104 #[.pointer none] w fun e w' => e = .returned (.tuple #[.int .i64 0, .int .i64 1]) ∧ w = w' := by
 go_enter Tryz.func104, Tryz.ntmps104
 go_wp2
 go_ret2
 exact ⟨rfl, rfl⟩
theorem take_any {w : World} {b g : Nat} {l : List Int} (m : MapAt w b g l) :
  Calls Tryz.prog 104 #[mp b] w fun e w' => e = .returned (.tuple #[.int .i64 (takeF l).2.1, .int .i64 (takeF l).2.2]) ∧ MapAt w' b g (takeF l).1 ∧ Only [g] w w' := by
 have hl := m.hl
 have c0 := m.c0
 by_cases h : firstF l 0 < l.length
 ·have hu : takeF l = (l.set (firstF l 0) 2, (firstF l 0 : Int), 0) := by rw [takeF, if_pos h]
  have hi : indexF l 0 = firstF l 0 := by rw [indexF, if_pos h]
  rw [hu]
  have K := Lib.hid (hi ▸ first_any m 0)
  have ck := m.ck _ h
  have fk := m.fk _ h
  have HU := Lib.hid (m.set_ (firstF l 0) 2)
  clear hu hi
  generalize firstF l 0 = k at *
  unfold mp at *
  go_enter Tryz.func104, Tryz.ntmps104
  go_wp2_with fail
  refine (K.out).mono ?_
  rintro e w1 ⟨rfl, rfl⟩
  go_wp2_with fail
  go_ret2
  exact ⟨rfl, HU.out, (Only.refl _ _).setCell (by simp) _⟩
 ·have hu : takeF l = (l, 0, 11) := by rw [takeF, if_neg h]
  have hi : indexF l 0 = -1 := by rw [indexF, if_neg h]
  rw [hu]
  have K := Lib.hid (hi ▸ first_any m 0)
  clear hu hi h
  unfold mp at *
  go_enter Tryz.func104, Tryz.ntmps104
  go_wp2_with fail
  refine (K.out).mono ?_
  rintro e w1 ⟨rfl, rfl⟩
  go_wp2_with fail
  go_ret2
  exact ⟨rfl, m, Only.refl _ _⟩
end Go.Proofs.YtbelcgjbhpjnpaaGreat.Fm

/- freemap by its contracts: turn, Commit, Abort, List, Count, Free, Fresh. -/
namespace Go.Proofs.YtbelcgjbhpjnpaaGreat.Fm
open Go.RowKit

theorem turn_nil (a c : Int) (w : World) :
  Calls Tryz.prog 168 #[.pointer none, .int .i64 a, .int .i64 c] w fun e w' => e = .returned (.bool false) ∧ w = w' := by
 go_enter Tryz.func168, Tryz.ntmps168
 go_wp2
 go_ret
 exact ⟨rfl, rfl⟩
set_option maxHeartbeats 1000000 in
theorem turn_any {w : World} {b g : Nat} {l : List Int} (m : MapAt w b g l) (a c : Int) :
  Calls Tryz.prog 168 #[mp b, .int .i64 a, .int .i64 c] w fun e w' => e = .returned (.bool true) ∧ MapAt w' b g (turnF a c l) ∧ Only [g] w w' := by
 have hl := m.hl
 have c0 := m.c0
 have HM := Lib.hid m
 clear m
 unfold mp
 go_enter Tryz.func168, Tryz.ntmps168
 go_wp2
 go_loopw [7, 8, 16] (fun _ _ i wr => ∃ k : Nat, k ≤ l.length ∧ i = .int .i64 k ∧ MapAt wr b g (turnTo a c l k) ∧ Only [g] w wr) (fun _ _ i _ => l.length - (intOf i).toNat)
 case atStart => exact ⟨0, by omega, rfl, by rw [turnTo_zero]; exact HM.out, Only.refl _ _⟩
 case round =>
  obtain ⟨k, hk, rfl, M, O⟩ := hrel
  have HL := Lib.hid (turnTo_length a c l k)
  by_cases h : k < l.length
  ·have c0r : wr.cell? ⟨b, 0, none⟩ = some (.slice (some ⟨g, 0, none⟩) l.length l.length) := by rw [← HL.out]; exact M.c0
   have ck := M.ck k (by rw [HL.out]; exact h)
   have fk := M.fk k (by rw [HL.out]; exact h)
   rw [turnTo_get a c l k h] at ck
   have HS := Lib.hid (turnTo_succ a c l k h)
   have HE := Lib.hid (turnTo_same a c l k h)
   have M3 := Lib.hid (M.set_ k)
   by_cases h3 : l.getD k 0 = 3
   ·rw [h3] at ck
    have HX := Lib.hid h3
    clear h3
    go_wp2
    go_roundw
    case rel => exact ⟨k + 1, by omega, by go_num, by rw [HS.out, HX.out]; exact M3.out a, O.setCell (by simp) _⟩
    case measure => simp [intOf]; omega
   ·by_cases h2 : l.getD k 0 = 2
    ·rw [h2] at ck
     have HX := Lib.hid h2
     clear h3 h2
     go_wp2
     go_roundw
     case rel => exact ⟨k + 1, by omega, by go_num, by rw [HS.out, HX.out]; exact M3.out c, O.setCell (by simp) _⟩
     case measure => simp [intOf]; omega
    ·have HX := Lib.hid (HE.out (by rw [turnOne, if_neg h3, if_neg h2]))
     generalize l.getD k 0 = x at *
     go_wp2
     go_roundw
     case rel => exact ⟨k + 1, by omega, by go_num, by rw [HX.out]; exact M, O⟩
     case measure => simp [intOf]; omega
  ·have hkl : k = l.length := by omega
   have HX := Lib.hid hkl
   clear hkl
   go_wp2
   go_ret
   exact ⟨rfl, by rw [← turnTo_all, ← HX.out]; exact M, O⟩

theorem commit_nil (w : World) :
  Calls Tryz.prog 106 #[.pointer none] w fun e w' => e = .returned (.bool false) ∧ w = w' := by
 go_enter Tryz.func106, Tryz.ntmps106
 go_wp2_with fail
 refine (turn_nil _ _ _).mono ?_
 rintro e w1 ⟨rfl, rfl⟩
 go_wp2_with fail
 go_ret
 exact ⟨rfl, rfl⟩
theorem commit_any {w : World} {b g : Nat} {l : List Int} (m : MapAt w b g l) :
  Calls Tryz.prog 106 #[mp b] w fun e w' => e = .returned (.bool true) ∧ MapAt w' b g (turnF 0 1 l) ∧ Only [g] w w' := by
 have K := Lib.hid (turn_any m)
 unfold mp at *
 go_enter Tryz.func106, Tryz.ntmps106
 go_wp2_with fail
 refine (K.out _ _).mono ?_
 rintro e w1 ⟨rfl, m1, o1⟩
 go_wp2_with fail
 go_ret
 exact ⟨rfl, m1, o1⟩
theorem abort_nil (w : World) :
  Calls Tryz.prog 107 #[.pointer none] w fun e w' => e = .returned (.bool false) ∧ w = w' := by
 go_enter Tryz.func107, Tryz.ntmps107
 go_wp2_with fail
 refine (turn_nil _ _ _).mono ?_
 rintro e w1 ⟨rfl, rfl⟩
 go_wp2_with fail
 go_ret
 exact ⟨rfl, rfl⟩
theorem abort_any {w : World} {b g : Nat} {l : List Int} (m : MapAt w b g l) :
  Calls Tryz.prog 107 #[mp b] w fun e w' => e = .returned (.bool true) ∧ MapAt w' b g (turnF 1 0 l) ∧ Only [g] w w' := by
 have K := Lib.hid (turn_any m)
 unfold mp at *
 go_enter Tryz.func107, Tryz.ntmps107
 go_wp2_with fail
 refine (K.out _ _).mono ?_
 rintro e w1 ⟨rfl, m1, o1⟩
 go_wp2_with fail
 go_ret
 exact ⟨rfl, m1, o1⟩

/-- append of one number to a slice of the call's own -/
theorem append_int {w : World} {v : Value} {n : Nat} {l : List Int} (S : Slc w 3 1 v n (ints l)) (x : Int) (hn : n ≤ 1000000) :
  ∃ v' w', (Builtin.append_ #[52, 52] 52 #[v, .slice (some ⟨w.heap.size, 0, none⟩) 1 1]).run Tryz.prog (w.alloc (.cells #[.int .i64 x] 3)) = .ok v' w' ∧ Slc w' 3 1 v' (n + 1) (ints (l ++ [x])) ∧ Only (ownB v) w w' ∧ (∀ g ∈ ownB v', g ∈ ownB v ∨ w.heap.size ≤ g) := by
 obtain ⟨i0, hi, hz0, hz1, hz2⟩ := info_parts info_int
 obtain ⟨v', w', h1, h2, h3, h4⟩ := append_slc (P := Tryz.prog) (S.alloc (.cells #[.int .i64 x] 3)) 52 52 i0 (.int .i64 0) 8 Tryz.underlying52 hi hz0 hz1 hz2 rfl (by omega)
  ⟨w.heap.size, 0, none⟩ 1 1 [.int .i64 x] rfl (cells_at (l := [.int .i64 x]) (Blk.new w 3 #[.int .i64 x]) 0 _ (by simp)) (by simp [Value.oneCell']) (by unfold maxLen; omega) (by omega)
 refine ⟨v', w', h1, by rw [ints_append]; exact h2, ((Only.refl _ _).alloc _).trans_of h3 (fun x hx _ => hx), fun g hg => (h4 g hg).imp id (fun h => by simp at h; omega)⟩

set_option maxHeartbeats 1000000 in
theorem list_any {w : World} {b g : Nat} {l : List Int} (m : MapAt w b g l) (kind : Int) :
  Calls Tryz.prog 146 #[mp b, .int .i64 kind] w fun e w' => ∃ v, e = .returned v ∧ Slc w' 3 1 v (listF l kind).length (ints (listF l kind)) ∧ Below w.heap.size w w' ∧ (∀ x ∈ ownB v, w.heap.size ≤ x) := by
 have hl := m.hl
 have c0 := m.c0
 have HM := Lib.hid m
 clear m
 unfold mp
 go_enter Tryz.func146, Tryz.ntmps146
 go_wp2
 go_loopw [5, 6, 7, 16] (fun v _ _ i wr => ∃ k : Nat, k ≤ l.length ∧ i = .int .i64 k ∧ Slc wr 3 1 v (listTo l kind k).length (ints (listTo l kind k)) ∧ Below w.heap.size w wr ∧ (∀ x ∈ ownB v, w.heap.size ≤ x)) (fun _ _ _ i _ => l.length - (intOf i).toNat)
 case atStart => exact ⟨0, by omega, rfl, Slc.nil _ _ _, Below.refl _ _, by simp [ownB]⟩
 case round =>
  obtain ⟨k, hk, rfl, S, O, F⟩ := hrel
  have F := Lib.hid F
  have hlt := listTo_length l kind k
  by_cases h : k < l.length
  ·have M := HM.out.below O
   have ck := M.ck k h
   by_cases h3 : l.getD k 0 = kind
   ·have HX := Lib.hid (show listTo l kind (k + 1) = listTo l kind k ++ [(k : Int)] by simp only [listTo, if_pos h3])
    rw [h3] at ck
    clear h3 M
    obtain ⟨v', w', ea, S', O', F'⟩ := append_int S k (by omega)
    have F' := Lib.hid F'
    have EA := Lib.hid ea
    clear ea
    generalize listTo l kind k = L at *
    go_wp2_with (at_builtin; refine wpList_append_run rfl _ _ _ rfl _ _ rfl rfl EA.out ?_)
    go_roundw
    case rel => exact ⟨k + 1, by omega, by go_num, by rw [HX.out]; simpa using S', O.trans (O'.below_of O.size F.out), fun x hx => (F'.out x hx).elim (F.out x) (fun h => Nat.le_trans O.size h)⟩
    case measure => simp [intOf]; omega
   ·have HX := Lib.hid (show listTo l kind (k + 1) = listTo l kind k by simp only [listTo, if_neg h3]; simp)
    generalize l.getD k 0 = x at *
    clear M
    have hne : (x == kind) = false := by simpa using h3
    go_wp2
    go_roundw
    case rel => exact ⟨k + 1, by omega, by go_num, by rw [HX.out]; exact S, O, F.out⟩
    case measure => simp [intOf]; omega
  ·have hkl : k = l.length := by omega
   have HX := Lib.hid hkl
   clear hkl
   go_wp2
   go_ret
   refine ⟨_, rfl, ?_, O, F.out⟩
   unfold listF
   rw [← HX.out]
   exact S
theorem list_nil (kind : Int) (w : World) :
  Calls Tryz.prog 146 #[.pointer none, .int .i64 kind] w fun e w' => e = .returned (.slice none 0 0) ∧ w = w' := by
 go_enter Tryz.func146, Tryz.ntmps146
 go_wp2
 go_ret
 exact ⟨rfl, rfl⟩
end Go.Proofs.YtbelcgjbhpjnpaaGreat.Fm

/- freemap by its contracts: Count, Free, Fresh. -/
namespace Go.Proofs.YtbelcgjbhpjnpaaGreat.Fm
open Go.RowKit

theorem slc_len {w : World} {e : TypeId} {size n : Nat} {v : Value} {l : List Value} (S : Slc w e size v n l) : ∃ A c, v = .slice A n c := by
 rcases S.2 with ⟨rfl, rfl⟩ | ⟨g, cap, rest, rfl, _⟩
 ·exact ⟨none, 0, rfl⟩
 ·exact ⟨_, cap, rfl⟩
theorem count1_any {w : World} {b g x : Nat} {l : List Int} (m : MapAt w b g l) (kind : Int) (hx : w.cell? ⟨x, 0, none⟩ = some (mp b)) :
  Calls Tryz.prog 145 #[.int .i64 kind, .pointer (some ⟨x, 0, none⟩)] w fun e w' => e = .returned (.int .i64 (listF l kind).length) ∧ Below w.heap.size w w' := by
 have K := Lib.hid (list_any m kind)
 unfold mp at *
 go_enter Tryz.func145, Tryz.ntmps145
 go_wp2_with fail
 refine (K.out).mono ?_
 rintro e w1 ⟨v, rfl, S, hb, -⟩
 obtain ⟨A, c, rfl⟩ := slc_len S
 go_wp2_with fail
 go_ret
 exact ⟨rfl, hb⟩
theorem count1_nil {w : World} {x : Nat} (kind : Int) (hx : w.cell? ⟨x, 0, none⟩ = some (.pointer none)) :
  Calls Tryz.prog 145 #[.int .i64 kind, .pointer (some ⟨x, 0, none⟩)] w fun e w' => e = .returned (.int .i64 0) ∧ w = w' := by
 go_enter Tryz.func145, Tryz.ntmps145
 go_wp2_with fail
 refine (list_nil _ _).mono ?_
 rintro e w1 ⟨rfl, rfl⟩
 go_wp2_with fail
 go_ret
 exact ⟨rfl, rfl⟩
set_option maxHeartbeats 400000 in
theorem count_any {w : World} {b g : Nat} {l : List Int} (m : MapAt w b g l) :
  Calls Tryz.prog 79 #[mp b] w fun e w' => e = .returned (.tuple #[.int .i64 (listF l 0).length, .int .i64 (listF l 1).length, .int .i64 (listF l 2).length, .int .i64 (listF l 3).length]) ∧ Below w.heap.size w w' := by
 have m0 := m.below ((Below.refl _ _).alloc (Nat.le_refl _) (.cells #[mp b] 113))
 have B0 := Blk.new w 113 #[mp b]
 have O0 := (Below.refl w.heap.size w).alloc (Nat.le_refl _) (.cells #[mp b] 113)
 unfold mp at *
 go_enter Tryz.func79, Tryz.ntmps79
 go_wp2_with fail
 refine (count1_any m0 0 (B0.cell_some rfl)).mono ?_
 rintro e w1 ⟨rfl, hb1⟩
 have m1 := m0.below hb1
 have B1 := B0.below hb1 B0.lt
 have O1 := bstep O0 hb1
 clear m0 B0 O0 hb1
 go_wp2_with fail
 refine (count1_any m1 1 (B1.cell_some rfl)).mono ?_
 rintro e w2 ⟨rfl, hb2⟩
 have m2 := m1.below hb2
 have B2 := B1.below hb2 B1.lt
 have O2 := bstep O1 hb2
 clear m1 B1 O1 hb2
 go_wp2_with fail
 refine (count1_any m2 2 (B2.cell_some rfl)).mono ?_
 rintro e w3 ⟨rfl, hb3⟩
 have m3 := m2.below hb3
 have B3 := B2.below hb3 B2.lt
 have O3 := bstep O2 hb3
 clear m2 B2 O2 hb3
 go_wp2_with fail
 refine (count1_any m3 3 (B3.cell_some rfl)).mono ?_
 rintro e w4 ⟨rfl, hb4⟩
 have O4 := bstep O3 hb4
 clear m3 B3 O3 hb4
 go_wp2_with fail
 refine bodyPost_ret (v := .tuple #[.int .i64 (listF l 0).length, .int .i64 (listF l 1).length, .int .i64 (listF l 2).length, .int .i64 (listF l 3).length]) ?_ rfl ⟨rfl, O4⟩
 simp [results, Tryz.results79, go_sem]
set_option maxHeartbeats 400000 in
theorem count_nil (w : World) :
  Calls Tryz.prog 79 #[.pointer none] w fun e w' => e = .returned (.tuple #[.int .i64 0, .int .i64 0, .int .i64 0, .int .i64 0]) ∧ Below w.heap.size w w' := by
 have B0 := Blk.new w 113 #[.pointer none]
 have O0 := (Below.refl w.heap.size w).alloc (Nat.le_refl _) (.cells #[.pointer none] 113)
 have c0 := B0.cell_some (i := 0) rfl
 clear B0
 go_enter Tryz.func79, Tryz.ntmps79
 go_wp2_with (go_at_call 145; refine (count1_nil _ c0).mono ?_; rintro e w1 ⟨rfl, rfl⟩)
 refine bodyPost_ret (v := .tuple #[.int .i64 0, .int .i64 0, .int .i64 0, .int .i64 0]) ?_ rfl ⟨rfl, O0⟩
 simp [results, Tryz.results79, go_sem]
theorem free_any {w : World} {b g : Nat} {l : List Int} (m : MapAt w b g l) :
  Calls Tryz.prog 103 #[mp b] w fun e w' => e = .returned (.int .i64 (listF l 0).length) ∧ Below w.heap.size w w' := by
 have K := Lib.hid (list_any m 0)
 unfold mp at *
 go_enter Tryz.func103, Tryz.ntmps103
 go_wp2_with fail
 refine (K.out).mono ?_
 rintro e w1 ⟨v, rfl, S, hb, -⟩
 obtain ⟨A, c, rfl⟩ := slc_len S
 go_wp2_with fail
 go_ret
 exact ⟨rfl, hb⟩
theorem free_nil (w : World) :
  Calls Tryz.prog 103 #[.pointer none] w fun e w' => e = .returned (.int .i64 0) ∧ w = w' := by
 go_enter Tryz.func103, Tryz.ntmps103
 go_wp2_with fail
 refine (list_nil _ _).mono ?_
 rintro e w1 ⟨rfl, rfl⟩
 go_wp2_with fail
 go_ret
 exact ⟨rfl, rfl⟩
def freshF (l : List Int) (i : Int) : Bool := inF l i && (l.getD i.toNat 0 == 2)
theorem fresh_any {w : World} {b g : Nat} {l : List Int} (m : MapAt w b g l) (i : Int) :
  Calls Tryz.prog 99 #[mp b, .int .i64 i] w fun e w' => e = .returned (.bool (freshF l i)) ∧ w = w' := by
 by_cases hin : inF l i = true
 ·have hin' := hin
  simp only [inF, decide_eq_true_eq] at hin'
  obtain ⟨h0, h1⟩ := hin'
  obtain ⟨k, rfl⟩ := Int.eq_ofNat_of_zero_le h0
  have hk : k < l.length := by omega
  have c0 := m.c0
  have ck := m.ck k hk
  have HF := Lib.hid (show freshF l k = (l.getD k 0 == 2) by simp only [freshF, hin, Bool.true_and, Int.toNat_natCast])
  generalize l.getD k 0 = x at ck HF
  unfold mp
  go_enter Tryz.func99, Tryz.ntmps99
  go_wp2_with fail
  refine (at_ok m k hin).mono ?_
  rintro e w1 ⟨rfl, rfl⟩
  go_wp2_with fail
  go_ret
  exact ⟨by rw [HF.out]; rfl, rfl⟩
 ·have hin' : inF l i = false := by simpa using hin
  have HF := Lib.hid (show freshF l i = false by simp only [freshF, hin', Bool.false_and])
  unfold mp
  go_enter Tryz.func99, Tryz.ntmps99
  go_wp2_with fail
  refine (at_no m i hin').mono ?_
  rintro e w1 ⟨rfl, rfl⟩
  go_wp2_with fail
  go_ret
  exact ⟨by rw [HF.out]; rfl, rfl⟩
theorem fresh_nil (i : Int) (w : World) :
  Calls Tryz.prog 99 #[.pointer none, .int .i64 i] w fun e w' => e = .returned (.bool false) ∧ w = w' := by
 go_enter Tryz.func99, Tryz.ntmps99
 go_wp2_with fail
 refine (at_nil i _).mono ?_
 rintro e w1 ⟨rfl, rfl⟩
 go_wp2_with fail
 go_ret
 exact ⟨rfl, rfl⟩
theorem use_nil (i : Int) (w : World) :
  Calls Tryz.prog 156 #[.pointer none, .int .i64 i] w fun e w' => e = .returned (.int .i64 1) ∧ w = w' := by
 go_enter Tryz.func156, Tryz.ntmps156
 go_wp2_with fail
 refine (at_nil i _).mono ?_
 rintro e w1 ⟨rfl, rfl⟩
 go_wp2_with fail
 go_ret
 exact ⟨rfl, rfl⟩
theorem leave_nil (i : Int) (w : World) :
  Calls Tryz.prog 101 #[.pointer none, .int .i64 i] w fun e w' => e = .returned (.int .i64 1) ∧ w = w' := by
 go_enter Tryz.func101, Tryz.ntmps101
 go_wp2_with fail
 refine (at_nil i _).mono ?_
 rintro e w1 ⟨rfl, rfl⟩
 go_wp2_with fail
 go_ret
 exact ⟨rfl, rfl⟩
end Go.Proofs.YtbelcgjbhpjnpaaGreat.Fm
