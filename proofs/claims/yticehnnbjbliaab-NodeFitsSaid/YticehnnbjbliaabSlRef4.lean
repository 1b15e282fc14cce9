/- the document's slots by its contracts: Put, Take. -/
import Derived.Test.YticehnnbjbliaabSlRef3
import Derived.Deep.DrawnRows
import Derived.Deep.RegionHeld
namespace Go.Proofs.Yticehnnbjbliaab.Sl
open Go.RowKit
attribute [local go_sem ↓] Go.wp_at_zero Go.wp_at_succ
attribute [local go_sem ↓] exec_app

/-- append(v, xs..), whatever xs is: nil, or cells that may be read -/
theorem append_str {w : World} {v : Value} {n : Nat} {l : List (List UInt8)} (S : Slc w 9 1 v n (strs l)) (hn : n ≤ 10000000) (A : Option Addr) (m c : Nat) (news : List (List UInt8)) (hm : news.length = m) (hm1 : m ≤ 1000000) (hA : A = none → m = 0) (hc : ∀ a, A = some a → ∀ j u, (strs news)[j]? = some u → w.cell? (a.add j) = some u) :
    ∃ X cx w', appRun Try.prog 34 34 w v (.slice A m c) = .ok (.slice X (n + m) cx) w' ∧ Slc w' 9 1 (.slice X (n + m) cx) (n + m) (strs (l ++ news)) ∧ Only (ownB v) w w' ∧ (∀ g ∈ ownB (.slice X (n + m) cx), g ∈ ownB v ∨ w.heap.size ≤ g) := by
  obtain ⟨i0, hi0, hz0, hz1, hz2⟩ := info_parts info_string
  have es : strs l ++ strs news = strs (l ++ news) := by simp [strs]
  cases A with
  | none =>
    have hm0 := hA rfl
    subst hm0
    have hnews : news = [] := List.eq_nil_of_length_eq_zero hm
    subst hnews
    rw [Nat.add_zero, List.append_nil]
    obtain ⟨A', c', rfl⟩ := slc_val S
    refine ⟨A', c', w, ?_, S, Only.refl _ _, fun g hg => .inl hg⟩
    unfold appRun
    rcases S.2 with ⟨hv, h0⟩ | ⟨g, cap, rest, hv, B, hcc, _⟩
    · simp only [Value.slice.injEq] at hv
      obtain ⟨rfl, -, rfl⟩ := hv
      subst h0
      simp [Builtin.append_, run_underlying Try.underlying34, sizeOf, typeInfo, hi0, Builtin.lenOf, Builtin.firstCells]
    · simp only [Value.slice.injEq] at hv
      obtain ⟨rfl, -, rfl⟩ := hv
      have hnc : n ≤ c' := by have := S.1; omega
      simp [Builtin.append_, run_underlying Try.underlying34, sizeOf, typeInfo, hi0, Builtin.lenOf, Builtin.firstCells, hnc, storeCells]
  | some a =>
    obtain ⟨v', w', h1, h2, h3, h4⟩ := append_slc (P := Try.prog) S 34 34 i0 (.string .empty) 16 Try.underlying34 hi0 hz0 hz1 hz2 rfl (by omega) a m c (strs news) (by simp [hm]) (hc a rfl) (by intro u hu; simp only [strs, List.mem_map] at hu; obtain ⟨_, _, rfl⟩ := hu; rfl) (by unfold maxLen; omega) (by omega)
    rw [es] at h2
    obtain ⟨X, cx, rfl⟩ := slc_val h2
    exact ⟨X, cx, w', h1, h2, h3, h4⟩
theorem strs_cells {w : World} {g : Nat} {n c : Nat} {l : List (List UInt8)} (S : Slc w 9 1 (.slice (some ⟨g, 0, none⟩) n c) n (strs l)) (o : Nat) (ms : List (List UInt8)) (h : ∀ j u, (strs ms)[j]? = some u → (strs l)[o + j]? = some u) : ∀ j u, (strs ms)[j]? = some u → w.cell? ((⟨g, o, none⟩ : Addr).add j) = some u := by
  obtain ⟨rest, B, _⟩ := S.blk
  exact cells_at B o _ (fun j u hu => by
    have h1 := h j u hu
    rw [List.getElem?_append_left (List.getElem?_eq_some_iff.1 h1).1]; exact h1)
theorem strs_take (l : List (List UInt8)) (i : Nat) (j : Nat) (u : Value) (h : (strs (l.take i))[j]? = some u) : (strs l)[0 + j]? = some u := by
  have hj : j < (strs (l.take i)).length := (List.getElem?_eq_some_iff.1 h).1
  rw [strs_length, List.length_take] at hj
  rw [Nat.zero_add]
  simp only [strs, List.getElem?_map] at h ⊢
  rw [List.getElem?_take_of_lt (by omega)] at h
  exact h
theorem strs_drop (l : List (List UInt8)) (i : Nat) (j : Nat) (u : Value) (h : (strs (l.drop i))[j]? = some u) : (strs l)[i + j]? = some u := by
  simp only [strs, List.getElem?_map, List.getElem?_drop] at h ⊢
  exact h
/-- an empty list of the call's own -/
theorem slc_empty (w : World) : Slc (w.alloc (.cells #[] 9)) 9 1 (.slice (some ⟨w.heap.size, 0, none⟩) 0 0) 0 (strs []) :=
  ⟨by simp, .inr ⟨w.heap.size, 0, [], rfl, Blk.new _ _ _, rfl, Nat.zero_le _⟩⟩
/-- what l[i:] is, of a list -/
def Src (A : Option Addr) (n c i : Nat) (A3 : Option Addr) (cc : Nat) : Prop :=
  (A = none ∧ n = 0 ∧ c = 0 ∧ i = 0 ∧ A3 = none ∧ cc = 0) ∨ (∃ g, A = some ⟨g, 0, none⟩ ∧ c = i ∧ n = i ∧ A3 = some ⟨g, 0, none⟩ ∧ cc = 0) ∨ (∃ g, A = some ⟨g, 0, none⟩ ∧ c ≠ i ∧ i < c ∧ n ≤ c ∧ A3 = some ⟨g, i, none⟩ ∧ cc = c - i)
section
variable {w : World} {A : Option Addr} {n c i : Nat} {l : List (List UInt8)} {A3 : Option Addr} {cc : Nat}
theorem src_of (S : Slc w 9 1 (.slice A n c) n (strs l)) (hi : i ≤ n) : ∃ A3 cc, Src A n c i A3 cc := by
  rcases S.2 with ⟨hv, h0⟩ | ⟨g, cap, rest, hv, B, hc, _⟩
  · simp only [Value.slice.injEq] at hv
    obtain ⟨rfl, -, rfl⟩ := hv
    exact ⟨none, 0, .inl ⟨rfl, h0, rfl, by omega, rfl, rfl⟩⟩
  · simp only [Value.slice.injEq] at hv
    obtain ⟨rfl, -, rfl⟩ := hv
    have hnc : n ≤ c := by have := S.1; omega
    by_cases hci : c = i
    · exact ⟨_, 0, .inr (.inl ⟨g, rfl, hci, by omega, rfl, rfl⟩)⟩
    · exact ⟨_, _, .inr (.inr ⟨g, rfl, hci, by omega, hnc, rfl, rfl⟩)⟩
theorem src_cells (h : Src A n c i A3 cc) (S : Slc w 9 1 (.slice A n c) n (strs l)) : (A3 = none → n - i = 0) ∧ ∀ a, A3 = some a → ∀ j u, (strs (l.drop i))[j]? = some u → w.cell? (a.add j) = some u := by
  have hl := S.1
  rw [strs_length] at hl
  rcases h with ⟨rfl, h1, h2, h3, rfl, h5⟩ | ⟨g, rfl, h1, h2, rfl, h4⟩ | ⟨g, rfl, h1, h2, h3, rfl, h5⟩
  · exact ⟨fun _ => by omega, fun a h => by cases h⟩
  · refine ⟨fun h => by (cases h), fun a ha j u hu => ?_⟩
    have hj : j < (strs (l.drop i)).length := (List.getElem?_eq_some_iff.1 hu).1
    rw [strs_length, List.length_drop] at hj
    omega
  · refine ⟨fun h => by (cases h), fun a ha => ?_⟩
    cases ha
    exact strs_cells S i _ (strs_drop l i)
theorem head_cells (S : Slc w 9 1 (.slice A n c) n (strs l)) (hi : i ≤ n) : (A = none → i = 0) ∧ ∀ a, A = some a → ∀ j u, (strs (l.take i))[j]? = some u → w.cell? (a.add j) = some u := by
  rcases S.2 with ⟨hv, h0⟩ | ⟨g, cap, rest, hv, B, hc, _⟩
  · simp only [Value.slice.injEq] at hv
    obtain ⟨rfl, -, rfl⟩ := hv
    exact ⟨fun _ => by omega, fun a h => by cases h⟩
  · simp only [Value.slice.injEq] at hv
    obtain ⟨rfl, -, rfl⟩ := hv
    refine ⟨fun h => by (cases h), fun a ha => ?_⟩
    cases ha
    exact strs_cells S 0 _ (strs_take l i)
end
/-- append([]string{}, l[:i]..) -/
theorem put_head {W : World} {g0 : Nat} (E : Slc W 9 1 (.slice (some ⟨g0, 0, none⟩) 0 0) 0 (strs [])) {A : Option Addr} {n c i : Nat} {l : List (List UInt8)} (S : Slc W 9 1 (.slice A n c) n (strs l)) (hi : i ≤ n) (hn : n ≤ 1000000) :
    ∃ X cx w', appRun Try.prog 34 34 W (.slice (some ⟨g0, 0, none⟩) 0 0) (.slice A i c) = .ok (.slice X i cx) w' ∧ Slc w' 9 1 (.slice X i cx) i (strs (l.take i)) ∧ Only [g0] W w' ∧ (∀ g ∈ ownB (.slice X i cx), g = g0 ∨ W.heap.size ≤ g) := by
  have hl := S.1
  rw [strs_length] at hl
  obtain ⟨h1, h2⟩ := head_cells S hi
  obtain ⟨X, cx, w', e, S', o, F⟩ := append_str E (by omega) A i c (l.take i) (by rw [List.length_take]; omega) (by omega) h1 h2
  rw [Nat.zero_add] at e S' F
  rw [List.nil_append] at S'
  exact ⟨X, cx, w', e, S', by simpa [ownB] using o, fun g hg => (F g hg).imp (by simp [ownB]) id⟩
/-- append(.., l[i:]..) -/
theorem put_rest {W : World} {X : Option Addr} {m cx : Nat} {lt : List (List UInt8)} (T : Slc W 9 1 (.slice X m cx) m (strs lt)) {A : Option Addr} {n c i : Nat} {l : List (List UInt8)} (S : Slc W 9 1 (.slice A n c) n (strs l)) (hi : i ≤ n) (hn : n ≤ 1000000) (hm : m ≤ 10000000) {A3 : Option Addr} {cc : Nat} (h : Src A n c i A3 cc) :
    ∃ Y cy w', appRun Try.prog 34 34 W (.slice X m cx) (.slice A3 (n - i) cc) = .ok (.slice Y (m + (n - i)) cy) w' ∧ Slc w' 9 1 (.slice Y (m + (n - i)) cy) (m + (n - i)) (strs (lt ++ l.drop i)) ∧ Only (ownB (.slice X m cx)) W w' ∧ (∀ g ∈ ownB (.slice Y (m + (n - i)) cy), g ∈ ownB (.slice X m cx) ∨ W.heap.size ≤ g) := by
  have hl := S.1
  rw [strs_length] at hl
  obtain ⟨h1, h2⟩ := src_cells h S
  exact append_str T hm A3 (n - i) cc (l.drop i) (by rw [List.length_drop]; omega) (by omega) h1 h2
/-- append(append(t, r), l[i:]..), r in a block of its own -/
theorem put_tail {W : World} {X : Option Addr} {cx g1 : Nat} {lt : List (List UInt8)} {r : ByteArray} {A : Option Addr} {n c i : Nat} {l : List (List UInt8)} (T : Slc W 9 1 (.slice X i cx) i (strs lt)) (R : Blk W g1 9 #[.string r]) (S : Slc W 9 1 (.slice A n c) n (strs l)) (hap : ∀ g ∈ ownB (.slice A n c), g ∉ ownB (.slice X i cx)) (hi : i ≤ n) (hn : n ≤ 1000000) {A3 : Option Addr} {cc : Nat} (h : Src A n c i A3 cc) :
    ∃ Y cy w1 Z cz w2, appRun Try.prog 34 34 W (.slice X i cx) (.slice (some ⟨g1, 0, none⟩) 1 1) = .ok (.slice Y (i + 1) cy) w1 ∧ appRun Try.prog 34 34 w1 (.slice Y (i + 1) cy) (.slice A3 (n - i) cc) = .ok (.slice Z (i + 1 + (n - i)) cz) w2 ∧
      Slc w2 9 1 (.slice Z (i + 1 + (n - i)) cz) (i + 1 + (n - i)) (strs (lt ++ r.data.toList :: l.drop i)) ∧ Only (ownB (.slice X i cx)) W w2 ∧ (∀ g ∈ ownB (.slice Z (i + 1 + (n - i)) cz), g ∈ ownB (.slice X i cx) ∨ W.heap.size ≤ g) := by
  have hr : (⟨r.data.toList.toArray⟩ : ByteArray) = r := by simp
  obtain ⟨Y, cy, w1, e1, T1, o1, F1⟩ := append_str T (by omega) (some ⟨g1, 0, none⟩) 1 1 [r.data.toList] rfl (by omega) (fun h => by cases h) (fun a ha => by
    cases ha
    rw [show strs [r.data.toList] = [.string r] from by simp [strs]]
    exact cells_at (l := [.string r]) R 0 _ (by intro j u hu; rw [Nat.zero_add]; exact hu))
  have S1 := S.only o1 hap
  have hlt := S.lt
  obtain ⟨Z, cz, w2, e2, T2, o2, F2⟩ := put_rest T1 S1 hi hn (by omega) h
  refine ⟨Y, cy, w1, Z, cz, w2, e1, e2, by simpa using T2, o1.trans_of o2 (fun x hx hlt => (F1 x hx).elim id (fun h => absurd hlt (by omega))), fun g hg => (F2 g hg).elim (F1 g) (fun h => .inr (Nat.le_trans o1.size h))⟩
/-- what a list that was put together is good for -/
def Put1 (W : World) (n : Nat) (L : List (List UInt8)) (w' : World) (v : Value) : Prop := Slc w' 9 1 v n (strs L) ∧ Below W.heap.size W w' ∧ (∀ g ∈ ownB v, W.heap.size ≤ g)
section
variable {W : World} {A : Option Addr} {n c i : Nat} {l : List (List UInt8)} {A3 : Option Addr} {cc : Nat} {r : ByteArray}
theorem put_way1 (S : Slc W 9 1 (.slice A n c) n (strs l)) (hi : i ≤ n) (hn : n ≤ 1000000) (h : Src A n c i A3 cc) :
    ∃ X1 c1 w1 Y1 d1 u1 Z1 f1 x1, appRun Try.prog 34 34 (W.alloc (.cells #[] 9)) (.slice (some ⟨W.heap.size, 0, none⟩) 0 0) (.slice A i c) = .ok (.slice X1 i c1) w1 ∧
      appRun Try.prog 34 34 (w1.alloc (.cells #[.string r] 9)) (.slice X1 i c1) (.slice (some ⟨w1.heap.size, 0, none⟩) 1 1) = .ok (.slice Y1 (i + 1) d1) u1 ∧
      appRun Try.prog 34 34 u1 (.slice Y1 (i + 1) d1) (.slice A3 (n - i) cc) = .ok (.slice Z1 (i + 1 + (n - i)) f1) x1 ∧ Put1 W (n + 1) (l.take i ++ r.data.toList :: l.drop i) x1 (.slice Z1 (i + 1 + (n - i)) f1) := by
  have hlt := S.lt
  obtain ⟨X1, c1, w1, a1, T1, o1, F1⟩ := put_head (slc_empty W) (S.alloc (.cells #[] 9)) hi hn
  have hz1 : W.heap.size + 1 ≤ w1.heap.size := by have := o1.size; simpa using this
  have F1' : ∀ g ∈ ownB (.slice X1 i c1), W.heap.size ≤ g := fun g hg => (F1 g hg).elim (fun h => by omega) (fun h => by simp at h; omega)
  obtain ⟨Y1, d1, u1, Z1, f1, x1, b1, k1, Q1, p1, G1⟩ := put_tail (T1.alloc (.cells #[.string r] 9)) (Blk.new w1 9 #[.string r]) (((S.alloc (.cells #[] 9)).only o1 (fun g hg => by have := hlt g hg; simp; omega)).alloc (.cells #[.string r] 9)) (fun g hg hg' => by have := hlt g hg; have := F1' g hg'; omega) hi hn h
  have b0 : Below W.heap.size W w1 := ((Below.refl _ _).alloc (Nat.le_refl _) _).trans (o1.below_of (by simp) (by simp))
  have b2 : Below W.heap.size W (w1.alloc (.cells #[.string r] 9)) := b0.alloc b0.size _
  have hnn : i + 1 + (n - i) = n + 1 := by omega
  refine ⟨X1, c1, w1, Y1, d1, u1, Z1, f1, x1, a1, b1, k1, by rw [← hnn]; exact Q1, b2.trans (p1.below_of b2.size F1'), fun g hg => (G1 g hg).elim (F1' g) (fun h => Nat.le_trans b2.size h)⟩
theorem put_way2 (S : Slc W 9 1 (.slice A n c) n (strs l)) (hi : i ≤ n) (hn : n ≤ 1000000) (h : Src A n c i A3 cc) :
    ∃ X1 c1 w1 Y1 d1 u1 Z1 f1 x1, appRun Try.prog 34 34 ((W.alloc (.cells #[] 9)).alloc (.cells #[.string r] 9)) (.slice (some ⟨W.heap.size, 0, none⟩) 0 0) (.slice A i c) = .ok (.slice X1 i c1) w1 ∧
      appRun Try.prog 34 34 w1 (.slice X1 i c1) (.slice (some ⟨W.heap.size + 1, 0, none⟩) 1 1) = .ok (.slice Y1 (i + 1) d1) u1 ∧
      appRun Try.prog 34 34 u1 (.slice Y1 (i + 1) d1) (.slice A3 (n - i) cc) = .ok (.slice Z1 (i + 1 + (n - i)) f1) x1 ∧ Put1 W (n + 1) (l.take i ++ r.data.toList :: l.drop i) x1 (.slice Z1 (i + 1 + (n - i)) f1) := by
  have hlt := S.lt
  have hs : (W.alloc (.cells #[] 9)).heap.size = W.heap.size + 1 := by simp
  have hs2 : ((W.alloc (.cells #[] 9)).alloc (.cells #[.string r] 9)).heap.size = W.heap.size + 2 := by simp
  have R0 := Blk.new (W.alloc (.cells #[] 9)) 9 #[.string r]
  rw [hs] at R0
  obtain ⟨X1, c1, w1, a1, T1, o1, F1⟩ := put_head ((slc_empty W).alloc (.cells #[.string r] 9)) ((S.alloc (.cells #[] 9)).alloc (.cells #[.string r] 9)) hi hn
  have F1' : ∀ g ∈ ownB (.slice X1 i c1), W.heap.size ≤ g := fun g hg => (F1 g hg).elim (fun h => by omega) (fun h => by omega)
  obtain ⟨Y1, d1, u1, Z1, f1, x1, b1, k1, Q1, p1, G1⟩ := put_tail T1 (R0.only o1 (by simp)) (((S.alloc (.cells #[] 9)).alloc (.cells #[.string r] 9)).only o1 (fun g hg => by have := hlt g hg; simp; omega)) (fun g hg hg' => by have := hlt g hg; have := F1' g hg'; omega) hi hn h
  have b0 : Below W.heap.size W w1 := (((Below.refl _ _).alloc (Nat.le_refl _) _).alloc (by simp) _).trans (o1.below_of (by simp; omega) (by simp))
  have hnn : i + 1 + (n - i) = n + 1 := by omega
  refine ⟨X1, c1, w1, Y1, d1, u1, Z1, f1, x1, a1, b1, k1, by rw [← hnn]; exact Q1, b0.trans (p1.below_of b0.size F1'), fun g hg => (G1 g hg).elim (F1' g) (fun h => Nat.le_trans b0.size h)⟩
theorem put_way3 (S : Slc W 9 1 (.slice A n c) n (strs l)) (hi : i ≤ n) (hn : n ≤ 1000000) (h : Src A n c i A3 cc) :
    ∃ X1 c1 w1 Y1 d1 u1 Z1 f1 x1, appRun Try.prog 34 34 ((W.alloc (.cells #[.string r] 9)).alloc (.cells #[] 9)) (.slice (some ⟨W.heap.size + 1, 0, none⟩) 0 0) (.slice A i c) = .ok (.slice X1 i c1) w1 ∧
      appRun Try.prog 34 34 w1 (.slice X1 i c1) (.slice (some ⟨W.heap.size, 0, none⟩) 1 1) = .ok (.slice Y1 (i + 1) d1) u1 ∧
      appRun Try.prog 34 34 u1 (.slice Y1 (i + 1) d1) (.slice A3 (n - i) cc) = .ok (.slice Z1 (i + 1 + (n - i)) f1) x1 ∧ Put1 W (n + 1) (l.take i ++ r.data.toList :: l.drop i) x1 (.slice Z1 (i + 1 + (n - i)) f1) := by
  have hlt := S.lt
  have hs : (W.alloc (.cells #[.string r] 9)).heap.size = W.heap.size + 1 := by simp
  have E0 := slc_empty (W.alloc (.cells #[.string r] 9))
  rw [hs] at E0
  have R0 := (Blk.new W 9 #[.string r]).alloc (.cells #[] 9)
  obtain ⟨X1, c1, w1, a1, T1, o1, F1⟩ := put_head E0 ((S.alloc (.cells #[.string r] 9)).alloc (.cells #[] 9)) hi hn
  have F1' : ∀ g ∈ ownB (.slice X1 i c1), W.heap.size + 1 ≤ g := fun g hg => (F1 g hg).elim (fun h => by omega) (fun h => by simp at h; omega)
  obtain ⟨Y1, d1, u1, Z1, f1, x1, b1, k1, Q1, p1, G1⟩ := put_tail T1 (R0.only o1 (by simp)) (((S.alloc (.cells #[.string r] 9)).alloc (.cells #[] 9)).only o1 (fun g hg => by have := hlt g hg; simp; omega)) (fun g hg hg' => by have := hlt g hg; have := F1' g hg'; omega) hi hn h
  have b0 : Below W.heap.size W w1 := (((Below.refl _ _).alloc (Nat.le_refl _) _).alloc (by simp) _).trans (o1.below_of (by simp; omega) (by simp))
  have hnn : i + 1 + (n - i) = n + 1 := by omega
  refine ⟨X1, c1, w1, Y1, d1, u1, Z1, f1, x1, a1, b1, k1, by rw [← hnn]; exact Q1, b0.trans (p1.below_of b0.size (fun g hg => by have := F1' g hg; omega)), fun g hg => (G1 g hg).elim (fun h => by have := F1' g h; omega) (fun h => Nat.le_trans b0.size h)⟩
end
theorem take_way {W : World} {A : Option Addr} {n c i : Nat} {l : List (List UInt8)} {A3 : Option Addr} {cc : Nat} (S : Slc W 9 1 (.slice A n c) n (strs l)) (hi : i + 1 ≤ n) (hn : n ≤ 1000000) (h : Src A n c (i + 1) A3 cc) :
    ∃ X1 c1 w1 Z1 f1 x1, appRun Try.prog 34 34 (W.alloc (.cells #[] 9)) (.slice (some ⟨W.heap.size, 0, none⟩) 0 0) (.slice A i c) = .ok (.slice X1 i c1) w1 ∧
      appRun Try.prog 34 34 w1 (.slice X1 i c1) (.slice A3 (n - (i + 1)) cc) = .ok (.slice Z1 (i + (n - (i + 1))) f1) x1 ∧ Put1 W (n - 1) (l.take i ++ l.drop (i + 1)) x1 (.slice Z1 (i + (n - (i + 1))) f1) := by
  have hlt := S.lt
  obtain ⟨X1, c1, w1, a1, T1, o1, F1⟩ := put_head (slc_empty W) (S.alloc (.cells #[] 9)) (show i ≤ n by omega) hn
  have hz1 : W.heap.size + 1 ≤ w1.heap.size := by have := o1.size; simpa using this
  have F1' : ∀ g ∈ ownB (.slice X1 i c1), W.heap.size ≤ g := fun g hg => (F1 g hg).elim (fun h => by omega) (fun h => by simp at h; omega)
  obtain ⟨Z1, f1, x1, k1, Q1, p1, G1⟩ := put_rest T1 ((S.alloc (.cells #[] 9)).only o1 (fun g hg => by have := hlt g hg; simp; omega)) hi hn (by omega) h
  have b0 : Below W.heap.size W w1 := ((Below.refl _ _).alloc (Nat.le_refl _) _).trans (o1.below_of (by simp) (by simp))
  have hnn : i + (n - (i + 1)) = n - 1 := by omega
  refine ⟨X1, c1, w1, Z1, f1, x1, a1, k1, by rw [← hnn]; exact Q1, b0.trans (p1.below_of b0.size F1'), fun g hg => (G1 g hg).elim (F1' g) (fun h => Nat.le_trans b0.size h)⟩
end Go.Proofs.Yticehnnbjbliaab.Sl
