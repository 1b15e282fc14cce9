/- slots by its contracts: Insert, Delete. -/
import Derived.Test.YticehnnbjbliaabSl7
namespace Go.Proofs.Yticehnnbjbliaab.Sl
open Go.RowKit
attribute [local go_sem ↓] exec_app

theorem info_parts_slot : ∃ i : TypeInfo, Try.prog.info? 81 = some i ∧ i.zero = some (.agg #[.int .i64 0, .int .i64 0]) ∧ i.size = 2 ∧ i.bytes = 16 := info_parts info_slot
theorem app_self {w : World} {A : Option Addr} {n c cc : Nat} (h : n ≤ c) : appRun Try.prog 78 78 w (.slice A n c) (.slice none 0 cc) = .ok (.slice A n c) w := by
  obtain ⟨i0, hi0, hz0, hz1, hz2⟩ := info_parts_slot
  unfold appRun
  cases A with
  | none => simp [Builtin.append_, run_underlying Try.underlying78, sizeOf, typeInfo, hi0, Builtin.lenOf, Builtin.firstCells, Nat.not_lt.2 h, h]
  | some a => simp [Builtin.append_, run_underlying Try.underlying78, sizeOf, typeInfo, hi0, Builtin.lenOf, Builtin.firstCells, h, storeCells]
theorem sc_split (l : List Slot) (i : Nat) : sc l = sc (l.take i) ++ sc (l.drop i) := by rw [← sc_append, List.take_append_drop]
/-- append(l[:i:i], xs..), xs not empty: what is cut off is laid anew -/
theorem append_cutN {w : World} {A : Option Addr} {n c : Nat} {l : List Slot} (S : Slc w 81 2 (.slice A n c) n (sc l)) (i : Nat) (hi : i ≤ n) (hn : n ≤ 1000000) (a : Addr) (cc : Nat) (lx : List Slot) (hm0 : 0 < lx.length) (hm1 : lx.length ≤ 1000000) (hx : ∀ j u, (sc lx)[j]? = some u → w.cell? (a.add j) = some u) :
    ∃ v' w', appRun Try.prog 78 78 w (.slice A i i) (.slice (some a) lx.length cc) = .ok v' w' ∧ Slc w' 81 2 v' (i + lx.length) (sc (l.take i ++ lx)) ∧ Below w.heap.size w w' ∧ (∀ g ∈ ownB v', w.heap.size ≤ g) := by
  obtain ⟨i0, hi0, hz0, hz1, hz2⟩ := info_parts_slot
  have hl := S.1
  rw [sc_length] at hl
  have hnl : (sc lx).length = lx.length * 2 := by rw [sc_length]; omega
  rcases S.2 with ⟨hv, h0⟩ | ⟨g, cap, rest, hv, B, hc, _⟩
  · simp only [Value.slice.injEq] at hv
    obtain ⟨rfl, -, rfl⟩ := hv
    subst h0
    obtain rfl : i = 0 := by omega
    obtain ⟨v', w', e, S', o, F⟩ := append_slc (P := Try.prog) (Slc.nil w 81 2) 78 78 i0 (.agg #[.int .i64 0, .int .i64 0]) 16 Try.underlying78 hi0 hz0 hz1 hz2 rfl (by omega) a lx.length cc (sc lx) hnl hx (sc_one lx) (by unfold maxLen; omega) (by omega)
    exact ⟨v', w', e, by rw [List.take_zero, List.nil_append]; simpa using S', o.below (by simp [ownB]), fun x hx => (F x hx).elim (by simp [ownB]) id⟩
  · simp only [Value.slice.injEq] at hv
    obtain ⟨rfl, -, rfl⟩ := hv
    have hli : (sc (l.take i)).length = i * 2 := by rw [sc_length, List.length_take]; omega
    obtain ⟨v', w', hrun, h2, h3⟩ := run_append_arg_grows (P := Try.prog) w 78 78 81 i0 (.agg #[.int .i64 0, .int .i64 0]) 2 16 Try.underlying78 hi0 hz0 hz1 hz2 rfl (by omega) ⟨g, 0, none⟩ i i (sc (l.take i)) hli
      (cells_at B 0 _ (by
        intro j u hu
        rw [Nat.zero_add]
        have hj : j < (sc (l.take i)).length := (List.getElem?_eq_some_iff.1 hu).1
        rw [sc_split l i, List.append_assoc, List.getElem?_append_left hj]
        exact hu)) a lx.length cc (sc lx) hnl hx (by omega) (by unfold maxLen; omega) (by omega)
    rw [← sc_append] at h2
    refine ⟨v', w', hrun, .of_own h2, ((Only.refl [] w).grown h3 (by simp)).below_nil, ?_⟩
    intro g' hg
    rcases h2.2 with ⟨rfl, _⟩ | ⟨g'', cap', cur, rfl, hb, _⟩
    · simp [ownB] at hg
    · simp [ownB] at hg; subst hg; exact hb
theorem append_cut {w : World} {A : Option Addr} {n c : Nat} {l : List Slot} (S : Slc w 81 2 (.slice A n c) n (sc l)) (i : Nat) (hi : i ≤ n) (hn : n ≤ 1000000) (a b : Nat) :
    ∃ v' w', appRun Try.prog 78 78 (w.alloc (.cells #[.int .i64 a, .int .i64 b] 81)) (.slice A i i) (.slice (some ⟨w.heap.size, 0, none⟩) 1 1) = .ok v' w' ∧ Slc w' 81 2 v' (i + 1) (sc (l.take i ++ [(a, b)])) ∧ Below w.heap.size w w' ∧ (∀ g ∈ ownB v', w.heap.size ≤ g) := by
  have b0 := (Below.refl w.heap.size w).alloc (Nat.le_refl _) (.cells #[.int .i64 (a : Int), .int .i64 (b : Int)] 81)
  obtain ⟨v', w', e, S', o, F⟩ := append_cutN (S.below b0) i hi hn ⟨w.heap.size, 0, none⟩ 1 [(a, b)] (by simp) (by simp) (cells_at (l := [.int .i64 (a : Int), .int .i64 (b : Int)]) (Blk.new _ _ _) 0 _ (by intro j u hu; rw [Nat.zero_add]; exact hu))
  exact ⟨v', w', e, S', bstep b0 o, fun g hg => Nat.le_trans (by simp) (F g hg)⟩
/-- append(to, l[i:]..) -/
theorem append_tail {w : World} {vt : Value} {m : Nat} {lt : List Slot} (T : Slc w 81 2 vt m (sc lt)) {A : Option Addr} {n c : Nat} {l : List Slot} (S : Slc w 81 2 (.slice A n c) n (sc l)) (i : Nat) (hi : i ≤ n) (hn : n ≤ 1000000) (hm : m ≤ 1000000) (hmp : 0 < m) :
    ∃ A' cc v' w', ((A = none ∧ n = 0 ∧ i = 0 ∧ c = 0 ∧ A' = none ∧ cc = 0) ∨ (∃ g, A = some ⟨g, 0, none⟩ ∧ c = i ∧ n = i ∧ A' = some ⟨g, 0, none⟩ ∧ cc = 0) ∨ (∃ g, A = some ⟨g, 0, none⟩ ∧ c ≠ i ∧ i < c ∧ n ≤ c ∧ A' = some ⟨g, i * 2, none⟩ ∧ cc = c - i)) ∧
      appRun Try.prog 78 78 w vt (.slice A' (n - i) cc) = .ok v' w' ∧ Slc w' 81 2 v' (m + (n - i)) (sc (lt ++ l.drop i)) ∧ Only (ownB vt) w w' ∧ (∀ g ∈ ownB v', g ∈ ownB vt ∨ w.heap.size ≤ g) := by
  obtain ⟨i0, hi0, hz0, hz1, hz2⟩ := info_parts_slot
  have hl := S.1
  rw [sc_length] at hl
  rcases S.2 with ⟨hv, h0⟩ | ⟨g, cap, rest, hv, B, hc, _⟩
  · simp only [Value.slice.injEq] at hv
    obtain ⟨rfl, -, rfl⟩ := hv
    subst h0
    obtain rfl : i = 0 := by omega
    have hl0 : l = [] := List.eq_nil_of_length_eq_zero (by omega)
    subst hl0
    obtain ⟨g, cap, rest, rfl, _, hcap, _⟩ := T.form hmp (by omega)
    exact ⟨none, 0, _, w, .inl ⟨rfl, rfl, rfl, rfl, rfl, rfl⟩, app_self hcap, by simpa using T, Only.refl _ _, fun x hx => .inl hx⟩
  · simp only [Value.slice.injEq] at hv
    obtain ⟨rfl, -, rfl⟩ := hv
    have hnc : n ≤ c := by
      have := S.1
      omega
    have hdl : (sc (l.drop i)).length = (n - i) * 2 := by rw [sc_length, List.length_drop]; omega
    have hcells : ∀ (o : Nat), o = i * 2 ∨ n - i = 0 → ∀ j u, (sc (l.drop i))[j]? = some u → w.cell? ((⟨g, o, none⟩ : Addr).add j) = some u := fun o ho => cells_at B o _ (by
      intro j u hu
      have hj : j < (sc (l.drop i)).length := (List.getElem?_eq_some_iff.1 hu).1
      rcases ho with rfl | h0
      · have hti : (sc (l.take i)).length = i * 2 := by rw [sc_length, List.length_take]; omega
        rw [sc_split l i, List.append_assoc, List.getElem?_append_right (by omega), hti, Nat.add_sub_cancel_left, List.getElem?_append_left hj]
        exact hu
      · omega)
    have key : ∀ (o cc : Nat), o = i * 2 ∨ n - i = 0 → ∃ v' w', appRun Try.prog 78 78 w vt (.slice (some ⟨g, o, none⟩) (n - i) cc) = .ok v' w' ∧ Slc w' 81 2 v' (m + (n - i)) (sc (lt ++ l.drop i)) ∧ Only (ownB vt) w w' ∧ (∀ g ∈ ownB v', g ∈ ownB vt ∨ w.heap.size ≤ g) := by
      intro o cc ho
      obtain ⟨v', w', e, S', o', F⟩ := append_slc (P := Try.prog) T 78 78 i0 (.agg #[.int .i64 0, .int .i64 0]) 16 Try.underlying78 hi0 hz0 hz1 hz2 rfl (by omega) ⟨g, o, none⟩ (n - i) cc (sc (l.drop i)) hdl (hcells o ho) (sc_one _) (by unfold maxLen; omega) (by omega)
      rw [← sc_append] at S'
      exact ⟨v', w', e, S', o', F⟩
    by_cases hci : c = i
    · have hni : n = i := by omega
      obtain ⟨v', w', h1, h2, h3, h4⟩ := key 0 0 (.inr (by omega))
      exact ⟨_, 0, v', w', .inr (.inl ⟨g, rfl, hci, hni, rfl, rfl⟩), h1, h2, h3, h4⟩
    · obtain ⟨v', w', h1, h2, h3, h4⟩ := key (i * 2) (c - i) (.inl rfl)
      exact ⟨_, c - i, v', w', .inr (.inr ⟨g, rfl, hci, by omega, hnc, rfl, rfl⟩), h1, h2, h3, h4⟩
end Go.Proofs.Yticehnnbjbliaab.Sl
