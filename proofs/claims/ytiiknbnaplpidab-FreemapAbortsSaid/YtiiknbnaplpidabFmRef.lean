/- the reference's map by its contracts. -/
import Derived.Test.YtiiknbnaplpidabFm4
namespace Go.Proofs.Ytiiknbnaplpidab.Fm
open Go.RowKit

/-- the reference's map lies there: its struct in block b, whose slice is v -/
structure RefAt (w : World) (b : Nat) (v : Value) (l : List Int) : Prop where
  hb : Blk w b 42 #[v]
  hs : Slc w 3 1 v l.length (ints l)
  hl : l.length ≤ 1024
/-- what a call may leave: the struct's block is written, the slice is the old one or new -/
def RefTo (w w' : World) (b : Nat) (v : Value) (l' : List Int) : Prop :=
  ∃ v', RefAt w' b v' l' ∧ Only [b] w w' ∧ (∀ x ∈ ownB v', x ∈ ownB v ∨ w.heap.size ≤ x)
section
variable {w w' : World} {b : Nat} {v : Value} {l : List Int} {S : List Nat}
theorem RefAt.ne (h : RefAt w b v l) : ∀ x ∈ ownB v, x ≠ b := by
  intro x hx
  rcases h.hs.2 with ⟨rfl, _⟩ | ⟨g, cap, rest, rfl, B, _⟩
  · simp [ownB] at hx
  · simp [ownB] at hx; subst hx; exact B.ne_ h.hb (by decide)
theorem RefAt.only (h : RefAt w b v l) (ho : Only S w w') (h1 : b ∉ S) (h2 : ∀ x ∈ ownB v, x ∉ S) : RefAt w' b v l := ⟨h.hb.only ho h1, h.hs.only ho h2, h.hl⟩
theorem RefAt.below (h : RefAt w b v l) (hb : Below w.heap.size w w') : RefAt w' b v l := h.only (S := []) (.of_below hb) (by simp) (by simp)
theorem RefAt.drewN (h : RefAt w b v l) (n : Nat) : RefAt (w.drewN n) b v l := ⟨h.hb, h.hs, h.hl⟩
theorem RefAt.c0 (h : RefAt w b v l) : w.cell? ⟨b, 0, none⟩ = some v := h.hb.cell_some rfl
theorem RefAt.to_self (h : RefAt w b v l) : RefTo w w b v l := ⟨v, h, Only.refl _ _, fun _ hx => .inl hx⟩
theorem RefAt.fmt (h : RefAt w b v l) (hn : 0 < l.length) : ∃ g cap, v = .slice (some ⟨g, 0, none⟩) l.length cap ∧ l.length ≤ cap ∧ (∀ k, k < l.length → w.cell? ⟨g, k, none⟩ = some (.int .i64 (l.getD k 0))) := by
  obtain ⟨g, cap, rest, hv, B, hc, _⟩ := h.hs.form hn (by omega)
  refine ⟨g, cap, hv, hc, fun k hk => B.cell_some ?_⟩
  rw [List.getElem?_toArray, List.getElem?_append_left (by simpa using hk), ints_get _ _ hk]
  simp [List.getD, List.getElem?_eq_getElem hk]
end

theorem rat_ok {w : World} {b : Nat} {v : Value} {l : List Int} (m : RefAt w b v l) (i : Int) (h : inF l i = true) :
    Calls Try.prog 32 #[mp b, .int .i64 i] w fun e w' => e = .returned (.int .i64 0) ∧ w = w' := by
  simp only [inF, decide_eq_true_eq] at h
  obtain ⟨h0, h1⟩ := h
  have hl := m.hl
  have c0 := m.c0
  obtain ⟨A, c, rfl⟩ := slc_len m.hs
  unfold mp
  go_enter Try.func32, Try.ntmps32
  go_wp2
  go_ret
  exact ⟨rfl, rfl⟩
theorem rat_no {w : World} {b : Nat} {v : Value} {l : List Int} (m : RefAt w b v l) (i : Int) (h : inF l i = false) :
    Calls Try.prog 32 #[mp b, .int .i64 i] w fun e w' => e = .returned (.int .i64 3) ∧ w = w' := by
  simp only [inF, decide_eq_false_iff_not] at h
  have h' : i < 0 ∨ (¬ i < 0 ∧ (l.length : Int) ≤ i) := by omega
  clear h
  have hl := m.hl
  have c0 := m.c0
  obtain ⟨A, c, rfl⟩ := slc_len m.hs
  unfold mp
  rcases h' with h | ⟨h, h1⟩
  all_goals
    go_enter Try.func32, Try.ntmps32
    go_wp2
    go_ret
    exact ⟨rfl, rfl⟩

theorem append_ints {w : World} {v : Value} {n : Nat} {l : List Int} (S : Slc w 3 1 v n (ints l)) (m : List Int) (a : Addr) (c : Nat) (hm : ∀ j u, (ints m)[j]? = some u → w.cell? (a.add j) = some u) (hn : n + m.length ≤ 1000000) :
    ∃ v' w', (Builtin.append_ #[28, 28] 28 #[v, .slice (some a) m.length c]).run Try.prog w = .ok v' w' ∧ Slc w' 3 1 v' (n + m.length) (ints (l ++ m)) ∧ Only (ownB v) w w' ∧ (∀ g ∈ ownB v', g ∈ ownB v ∨ w.heap.size ≤ g) := by
  obtain ⟨i0, hi, hz0, hz1, hz2⟩ := info_parts info_int
  obtain ⟨v', w', h1, h2, h3, h4⟩ := append_slc (P := Try.prog) S 28 28 i0 (.int .i64 0) 8 Try.underlying28 hi hz0 hz1 hz2 rfl (by omega)
    a m.length c (ints m) (by simp) hm (ints_one _) (by unfold maxLen; omega) (by omega)
  exact ⟨v', w', h1, by rw [ints_append]; exact h2, h3, h4⟩

theorem rset_any {w : World} {b : Nat} {v : Value} {l : List Int} (m : RefAt w b v l) (i : Nat) (x : Int) (h : i < l.length) :
    Calls Try.prog 33 #[mp b, .int .i64 i, .int .i64 x] w fun e w' => e = .returned (.tuple #[]) ∧ RefTo w w' b v (l.set i x) := by
  have hl := m.hl
  have c0 := m.c0
  obtain ⟨g, cap, rfl, hcap, hc⟩ := m.fmt (by omega)
  have hw0 : ∀ j u, (ints l)[j]? = some u → (w.alloc (.cells #[] 3)).cell? ((⟨g, 0, none⟩ : Addr).add j) = some u := by
    intro j u hu
    have hj : j < l.length := by simpa using (List.getElem?_eq_some_iff.1 hu).1
    rw [ints_get _ _ hj] at hu
    have e : (⟨g, 0, none⟩ : Addr).add j = ⟨g, j, none⟩ := by unfold Addr.add; split <;> simp_all
    have hcj := hc j hj
    have hg : g < w.heap.size := cell_lt' hcj
    rw [e, ← hu, World.cell?_alloc_lt w _ _ (by exact hg), hcj]
    simp [List.getD, List.getElem?_eq_getElem hj]
  have S0 : Slc (w.alloc (.cells #[] 3)) 3 1 (.slice (some ⟨w.heap.size, 0, none⟩) 0 0) 0 (ints []) :=
    ⟨rfl, .inr ⟨w.heap.size, 0, [], rfl, Blk.new w _ _, rfl, by simp [maxLen]⟩⟩
  obtain ⟨v', w1, ea, S1, O1, F1⟩ := append_ints S0 l ⟨g, 0, none⟩ cap hw0 (by omega)
  have EA := Lib.hid ea
  clear ea hw0 S0
  rw [Nat.zero_add, List.nil_append] at S1
  obtain ⟨g1, cap1, rest1, rfl, B1, hcap1, _⟩ := S1.form (by omega) (by omega)
  have hlt1 : w.heap.size ≤ g1 := by
    rcases F1 g1 (by simp [ownB]) with h | h
    · simp [ownB] at h; omega
    · simp at h; omega
  clear F1
  have O2 : Only [] w w1 := ((Only.refl _ _).alloc _).trans_of O1 (by simp [ownB])
  have hbl := m.hb.lt
  have hne : b ≠ g1 := by omega
  have Bb := m.hb.only O2 (by simp)
  have cb1 : w1.cell? ⟨b, 0, none⟩ = some (.slice (some ⟨g, 0, none⟩) l.length cap) := Bb.cell_some rfl
  have fb1 := Bb.frozen 0 (by simp)
  have cg1 : ∃ y, w1.cell? ⟨g1, i, none⟩ = some y := ⟨_, (B1.cell i).trans (Array.getElem?_eq_getElem (by simp; omega))⟩
  obtain ⟨y, cg1⟩ := cg1
  have fg1 := B1.frozen i (by simp; omega)
  unfold mp
  go_enter Try.func33, Try.ntmps33
  go_wp2_with (at_builtin; refine wpList_append_run rfl _ _ _ rfl _ _ rfl rfl EA.out ?_)
  go_end0
  have hset : ∀ {l' : List Int} {rest : List Value} {i : Nat} {x : Int}, i < l'.length → (ints l' ++ rest).toArray.setIfInBounds i (.int .i64 x) = (ints (l'.set i x) ++ rest).toArray := by
    intro l' rest i x hi
    rw [List.setIfInBounds_toArray, List.set_append_left _ _ (by simpa using hi), ints_set]
  have B2 := B1.set_ i (.int .i64 x)
  rw [hset h] at B2
  have B3 := B2.far (p := ⟨b, 0, none⟩) (fun e => hne e.symm) (.slice (some ⟨g1, 0, none⟩) l.length cap1)
  have Bb2 := (Bb.far (p := ⟨g1, i, none⟩) hne (.int .i64 x)).set_ 0 (.slice (some ⟨g1, 0, none⟩) l.length cap1)
  refine ⟨rfl, .slice (some ⟨g1, 0, none⟩) l.length cap1, ⟨Bb2, ⟨by simp, .inr ⟨g1, cap1, rest1, by simp, B3, by simpa using ‹(ints l).length + rest1.length = cap1 * 1›, ?_⟩⟩, by simpa using hl⟩, ?_, ?_⟩
  · obtain ⟨_, _, _, _, h5⟩ := S1.blk
    exact h5
  · exact ((O2.mono (S' := [b]) (by simp)).setCell (by simp; omega) _).setCell (by simp) _
  · intro x hx
    simp [ownB] at hx
    subst hx
    exact .inr hlt1
end Go.Proofs.Ytiiknbnaplpidab.Fm
