/- disk by its contracts: the object; works, at, counts, Down, Sectors, Calls, Arm, Loose, Sync. -/
import Derived.Test.YtmofbgcanehdoaaDisk
namespace Go.Proofs.Ytmofbgcanehdoaa.Dk
open Go.RowKit

/-- where a disk lies: its struct, its rows -/
structure Loc where
  b : Nat
  gN : Nat
  gO : Nat
  gL : Nat
def Loc.fp (L : Loc) : List Nat := [L.b, L.gN, L.gO, L.gL]
def bools (l : List Bool) : List Value := l.map Value.bool
@[simp] theorem bools_length (l : List Bool) : (bools l).length = l.length := by simp [bools]
theorem bools_get (l : List Bool) (k : Nat) (h : k < l.length) : (bools l)[k]? = some (.bool (l.getD k false)) := by
  simp [bools, List.getD, h]
theorem bools_set (l : List Bool) (k : Nat) (x : Bool) : (bools l).set k (.bool x) = bools (l.set k x) := by simp [bools]
def fields (L : Loc) (n : Nat) (d : D) : Array Value :=
  #[.slice (some ⟨L.gN, 0, none⟩) n n, .slice (some ⟨L.gO, 0, none⟩) n n, .slice (some ⟨L.gL, 0, none⟩) n n, .int .i64 d.armed, .int .i64 d.calls, .bool d.down]
structure DiskAt (w : World) (L : Loc) (n : Nat) (d : D) : Prop where
  hb : Blk w L.b 74 (fields L n d)
  hN : Blk w L.gN 80 (bvs d.now).toArray
  hO : Blk w L.gO 80 (bvs d.old).toArray
  hL : Blk w L.gL 4 (bools d.loose).toArray
  ne : L.gN ≠ L.gO
  ok : d.Ok n
section
variable {w w' : World} {L : Loc} {n : Nat} {d : D} {S : List Nat}
theorem DiskAt.only (h : DiskAt w L n d) (ho : Only S w w') (hd : ∀ x ∈ L.fp, x ∉ S) : DiskAt w' L n d :=
  ⟨h.hb.only ho (hd _ (by simp [Loc.fp])), h.hN.only ho (hd _ (by simp [Loc.fp])), h.hO.only ho (hd _ (by simp [Loc.fp])), h.hL.only ho (hd _ (by simp [Loc.fp])), h.ne, h.ok⟩
theorem DiskAt.below (h : DiskAt w L n d) (hb : Below w.heap.size w w') : DiskAt w' L n d := h.only (S := []) (.of_below hb) (by simp)
theorem DiskAt.drew (h : DiskAt w L n d) : DiskAt w.drew L n d := ⟨h.hb, h.hN, h.hO, h.hL, h.ne, h.ok⟩
theorem DiskAt.drewN (h : DiskAt w L n d) (k : Nat) : DiskAt (w.drewN k) L n d := ⟨h.hb, h.hN, h.hO, h.hL, h.ne, h.ok⟩
theorem DiskAt.lt (h : DiskAt w L n d) : ∀ x ∈ L.fp, x < w.heap.size := by
  intro x hx
  simp only [Loc.fp, List.mem_cons, List.not_mem_nil, or_false] at hx
  rcases hx with rfl | rfl | rfl | rfl
  · exact h.hb.lt
  · exact h.hN.lt
  · exact h.hO.lt
  · exact h.hL.lt
theorem DiskAt.bN (h : DiskAt w L n d) : L.b ≠ L.gN := h.hb.ne_ h.hN (by decide)
theorem DiskAt.bO (h : DiskAt w L n d) : L.b ≠ L.gO := h.hb.ne_ h.hO (by decide)
theorem DiskAt.bL (h : DiskAt w L n d) : L.b ≠ L.gL := h.hb.ne_ h.hL (by decide)
theorem DiskAt.LN (h : DiskAt w L n d) : L.gL ≠ L.gN := h.hL.ne_ h.hN (by decide)
theorem DiskAt.LO (h : DiskAt w L n d) : L.gL ≠ L.gO := h.hL.ne_ h.hO (by decide)
theorem DiskAt.f0 (h : DiskAt w L n d) : w.cell? ⟨L.b, 0, none⟩ = some (.slice (some ⟨L.gN, 0, none⟩) n n) := h.hb.cell_some rfl
theorem DiskAt.f1 (h : DiskAt w L n d) : w.cell? ⟨L.b, 1, none⟩ = some (.slice (some ⟨L.gO, 0, none⟩) n n) := h.hb.cell_some rfl
theorem DiskAt.f2 (h : DiskAt w L n d) : w.cell? ⟨L.b, 2, none⟩ = some (.slice (some ⟨L.gL, 0, none⟩) n n) := h.hb.cell_some rfl
theorem DiskAt.f3 (h : DiskAt w L n d) : w.cell? ⟨L.b, 3, none⟩ = some (.int .i64 d.armed) := h.hb.cell_some rfl
theorem DiskAt.f4 (h : DiskAt w L n d) : w.cell? ⟨L.b, 4, none⟩ = some (.int .i64 d.calls) := h.hb.cell_some rfl
theorem DiskAt.f5 (h : DiskAt w L n d) : w.cell? ⟨L.b, 5, none⟩ = some (.bool d.down) := h.hb.cell_some rfl
theorem DiskAt.fz (h : DiskAt w L n d) (i : Nat) (hi : i < 6) : w.frozen? ⟨L.b, i, none⟩ = false := h.hb.frozen i (by simpa [fields] using hi)
/-- new fields -/
theorem DiskAt.head (h : DiskAt w L n d) {d' : D} (B : Blk w' L.b 74 (fields L n d')) (ho : Only [L.b] w w') (e1 : d'.now = d.now) (e2 : d'.old = d.old) (e3 : d'.loose = d.loose) (hok : d'.Ok n) : DiskAt w' L n d' := by
  refine ⟨B, ?_, ?_, ?_, h.ne, hok⟩
  · rw [e1]; exact h.hN.only ho (by simp; exact fun e => h.bN e.symm)
  · rw [e2]; exact h.hO.only ho (by simp; exact fun e => h.bO e.symm)
  · rw [e3]; exact h.hL.only ho (by simp; exact fun e => h.bL e.symm)
theorem Only.fp_b (ho : Only [L.b] w w') : Only L.fp w w' := ho.mono (by simp [Loc.fp])
end
def dp (b : Nat) : Value := .pointer (some ⟨b, 0, none⟩)

theorem works_any {w : World} {L : Loc} {n : Nat} {d : D} (h : DiskAt w L n d) :
    Calls Try.prog 46 #[dp L.b] w fun e w' => e = .returned (.int .i64 d.worksF) ∧ w = w' := by
  have f5 := h.f5
  unfold dp D.worksF
  clear h
  cases hd : d.down
  all_goals
    rw [hd] at f5
    go_enter Try.func46, Try.ntmps46
    go_wp2
    go_ret
    exact ⟨rfl, rfl⟩
theorem works_nil (w : World) :
    Calls Try.prog 46 #[.pointer none] w fun e w' => e = .returned (.int .i64 1) ∧ w = w' := by
  go_enter Try.func46, Try.ntmps46
  go_wp2
  go_ret
  exact ⟨rfl, rfl⟩

theorem at_any {w : World} {L : Loc} {n : Nat} {d : D} (h : DiskAt w L n d) (i : Int) :
    Calls Try.prog 51 #[dp L.b, .int .i64 i] w fun e w' => e = .returned (.int .i64 (d.atF n i)) ∧ w = w' := by
  have f0 := h.f0
  have hn := h.ok.small
  have K := Lib.hid (works_any h)
  unfold D.worksF at K
  unfold D.atF
  unfold dp at *
  clear h
  cases hd : d.down
  · rw [hd] at K
    simp only [Bool.false_eq_true, if_false] at K ⊢
    by_cases hi : 0 ≤ i ∧ i < n
    · rw [if_pos hi]
      obtain ⟨h0, h1⟩ := hi
      go_enter Try.func51, Try.ntmps51
      go_wp2_with fail
      refine K.out.mono ?_
      rintro e w1 ⟨rfl, rfl⟩
      go_wp2_with fail
      go_ret
      exact ⟨rfl, rfl⟩
    · rw [if_neg hi]
      have hi' : i < 0 ∨ (¬ i < 0 ∧ (n : Int) ≤ i) := by omega
      clear hi
      rcases hi' with h1 | ⟨h1, h2⟩
      all_goals
        go_enter Try.func51, Try.ntmps51
        go_wp2_with fail
        refine K.out.mono ?_
        rintro e w1 ⟨rfl, rfl⟩
        go_wp2_with fail
        go_ret
        exact ⟨rfl, rfl⟩
  · rw [hd] at K
    simp only [if_true] at K ⊢
    go_enter Try.func51, Try.ntmps51
    go_wp2_with fail
    refine K.out.mono ?_
    rintro e w1 ⟨rfl, rfl⟩
    go_wp2_with fail
    go_ret
    exact ⟨rfl, rfl⟩
theorem at_nil (i : Int) (w : World) :
    Calls Try.prog 51 #[.pointer none, .int .i64 i] w fun e w' => e = .returned (.int .i64 1) ∧ w = w' := by
  go_enter Try.func51, Try.ntmps51
  go_wp2_with fail
  refine (works_nil _).mono ?_
  rintro e w1 ⟨rfl, rfl⟩
  go_wp2_with fail
  go_ret
  exact ⟨rfl, rfl⟩

/-- one call more; the disk is up when this is called -/
theorem counts_any {w : World} {L : Loc} {n : Nat} {d : D} (h : DiskAt w L n d) (hc : d.calls ≤ 1000000000) (ha : d.armed ≤ 9223372036854775807) :
    Calls Try.prog 47 #[dp L.b] w fun e w' => e = .returned (.int .i64 d.countF.2) ∧ DiskAt w' L n d.countF.1 ∧ Only [L.b] w w' := by
  have f3 := h.f3
  have f4 := h.f4
  have z3 := h.fz 3 (by omega)
  have z4 := h.fz 4 (by omega)
  have z5 := h.fz 5 (by omega)
  have f5 := h.f5
  have a0 := h.ok.armed
  have c0 := h.ok.calls
  have H := Lib.hid h
  have B := Lib.hid h.hb
  have OKC := Lib.hid h.ok.count
  clear h
  by_cases h0 : d.armed = 0
  · have e1 : d.countF = ({ d with calls := d.calls + 1 }, 0) := by unfold D.countF; rw [if_pos h0]
    rw [e1]
    rw [e1] at OKC
    rw [h0] at f3
    have HA := Lib.hid h0
    clear h0 e1
    unfold dp
    go_enter Try.func47, Try.ntmps47
    go_wp2_with fail
    go_ret
    have o1 : Only [L.b] w (w.setCell ⟨L.b, 4, none⟩ (.int .i64 (d.calls + 1))) := (Only.refl _ _).setCell (by simp) _
    exact ⟨rfl, H.out.head (B.out.set_ 4 _) o1 rfl rfl rfl OKC.out, o1⟩
  · by_cases h1 : d.armed = 1
    · have e1 : d.countF = ({ d with calls := d.calls + 1, armed := 0, down := true }, 13) := by unfold D.countF; rw [if_neg h0, if_pos h1]
      rw [e1]
      rw [e1] at OKC
      rw [h1] at f3
      have o1 : Only [L.b] w (((w.setCell ⟨L.b, 4, none⟩ (.int .i64 (d.calls + 1))).setCell ⟨L.b, 3, none⟩ (.int .i64 0)).setCell ⟨L.b, 5, none⟩ (.bool true)) := (((Only.refl _ _).setCell (by simp) _).setCell (by simp) _).setCell (by simp) _
      have D1 := H.out.head (d' := { d with calls := d.calls + 1, armed := 0, down := true }) ((((B.out.set_ 4 (.int .i64 (d.calls + 1))).set_ 3 (.int .i64 0)).set_ 5 (.bool true))) o1 rfl rfl rfl OKC.out
      have K := Lib.hid (works_any D1)
      have D1 := Lib.hid D1
      have O1 := Lib.hid o1
      clear h0 h1 e1 o1
      unfold D.worksF dp at *
      go_enter Try.func47, Try.ntmps47
      go_wp2_with fail
      refine K.out.mono ?_
      rintro e w1 ⟨rfl, rfl⟩
      go_wp2_with fail
      go_ret
      exact ⟨rfl, D1.out, O1.out⟩
    · have e1 : d.countF = ({ d with calls := d.calls + 1, armed := d.armed - 1, down := false }, 0) := by unfold D.countF; rw [if_neg h0, if_neg h1]
      rw [e1]
      rw [e1] at OKC
      have o1 : Only [L.b] w (((w.setCell ⟨L.b, 4, none⟩ (.int .i64 (d.calls + 1))).setCell ⟨L.b, 3, none⟩ (.int .i64 (d.armed - 1))).setCell ⟨L.b, 5, none⟩ (.bool false)) := (((Only.refl _ _).setCell (by simp) _).setCell (by simp) _).setCell (by simp) _
      have D1 := H.out.head (d' := { d with calls := d.calls + 1, armed := d.armed - 1, down := false }) ((((B.out.set_ 4 (.int .i64 (d.calls + 1))).set_ 3 (.int .i64 (d.armed - 1))).set_ 5 (.bool false))) o1 rfl rfl rfl OKC.out
      have K := Lib.hid (works_any D1)
      have D1 := Lib.hid D1
      have O1 := Lib.hid o1
      have t0 : (d.armed == 0) = false := by simpa using h0
      have t1 : (d.armed - 1 == 0) = false := by simp; omega
      clear e1 o1
      unfold D.worksF dp at *
      go_enter Try.func47, Try.ntmps47
      go_wp2_with fail
      refine K.out.mono ?_
      rintro e w1 ⟨rfl, rfl⟩
      go_wp2_with fail
      go_ret
      exact ⟨rfl, D1.out, O1.out⟩
end Go.Proofs.Ytmofbgcanehdoaa.Dk
