/- nodes: what comes in to the statements of layer 18. -/
import Derived.Test.YticehnnbjbliaabNd18
import Derived.Test.YticehnnbjbliaabNd10
import Derived.Test.YticehnnbjbliaabNd13
import Derived.Deep.Grids
import Derived.Deep.Slices
namespace Go.Proofs.Yticehnnbjbliaab.Nd
open Go.RowKit Sl Go.Deep Go.ChangeShapes Go.WideShapes
instance : Inhabited E := ⟨⟨.empty, .empty, 0⟩⟩
theorem ent_cells {H : Type} {enc : TypeId × Value → H} {w : World} {fuel : Nat} {cs : List Value} {x : DataW H × List MemPlace}
    (h : DataW.trod enc Try.prog w 0 (fun _ => true) true fuel 50 cs = some x) : ∃ e : E, cs = e.cells ∧ e.key.size ≤ maxLen ∧ e.val.size ≤ maxLen := by
  obtain ⟨xs, n, _, _, hl, hxl, hf⟩ := DataW.trod_struct Try.underlying50 h
  have hcl : Try.prog.cellsOf 50 = 3 := by kernel_rfl
  obtain ⟨q0, q1, q2, rfl⟩ : ∃ a b c, cs = [a, b, c] := by
    match cs, hl.trans hcl with
    | [a, b, c], _ => exact ⟨a, b, c, rfl⟩
  obtain ⟨y0, y1, y2, rfl⟩ : ∃ y0 y1 y2, xs = [y0, y1, y2] := by
    match xs, hxl with
    | [a, b, c], _ => exact ⟨a, b, c, rfl⟩
  have g0 := hf 0 _ rfl
  have g1 := hf 1 _ rfl
  have g2 := hf 2 _ rfl
  obtain ⟨r0, hr0, _, hs0⟩ := DataW.trod_string (x := y0) Try.underlying9 (cs := [q0]) g0
  obtain ⟨r1, hr1, _, hs1⟩ := DataW.trod_string (x := y1) Try.underlying9 (cs := [q1]) g1
  obtain ⟨r2, hr2, _⟩ := DataW.trod_int (x := y2) Try.underlying3 (cs := [q2]) g2
  simp only [List.cons.injEq, and_true] at hr0 hr1 hr2
  subst hr0 hr1 hr2
  exact ⟨⟨r0, r1, r2⟩, rfl, hs0, hs1⟩
/-- an entry by value -/
theorem ent_of {H : Type} {enc : TypeId × Value → H} {w : World} {base : Nat} {v : Value} {d : DataW H} {ps : List MemPlace} (hok : Value.okWide Try.prog w .any base 50 v) (h : DataW.Trod enc Try.prog w 0 (fun _ => true) true 50 v d ps) :
    ∃ e : E, v = e.agg ∧ e.key.size ≤ maxLen ∧ e.val.size ≤ maxLen := by
  obtain ⟨cs, rfl, hsz⟩ := okWide_struct Try.underlying50 hok
  obtain ⟨fuel, hf⟩ := h
  obtain ⟨e, h1, h2, h3⟩ := ent_cells (cs := cs.toList) (by simpa [Value.cells] using hf)
  refine ⟨e, ?_, h2, h3⟩
  unfold E.agg
  congr 1
  exact Array.toList_inj.1 h1
theorem ents_trod {H : Type} {enc : TypeId × Value → H} {w : World} {fuel : Nat} {c0 : Value} {x : DataW H × List MemPlace}
    (hf : DataW.trod enc Try.prog w 0 (fun _ => true) true fuel 22 [c0] = some x) :
    ∃ (A : Option Addr) (n c : Nat) (l : List E), c0 = .slice A n c ∧ n ≤ maxLen ∧ Ents w A n l ∧ ∀ e ∈ l, e.key.size ≤ maxLen ∧ e.val.size ≤ maxLen := by
  have hce : Try.prog.cellsOf 50 = 3 := by kernel_rfl
  rcases open_slice Try.underlying22 hf with ⟨hcs, _⟩ | ⟨a, len, cap, m, n, D, Pl, hcs, _, hl, hm, hmm, _, hall⟩
  · simp only [List.cons.injEq, and_true] at hcs
    subst hcs
    exact ⟨none, 0, 0, [], rfl, Nat.zero_le _, ⟨rfl, fun k e h => by simp at h⟩, by simp⟩
  · simp only [List.cons.injEq, and_true] at hcs
    subst hcs
    simp at hmm
    have each : ∀ k, k < len → ∃ e : E, EntAt w (a.add (k * 3)) e ∧ e.key.size ≤ maxLen ∧ e.val.size ≤ maxLen := by
      intro k hk
      obtain ⟨cs', hcs, htr⟩ := hall k (by omega)
      rw [hce] at hcs
      obtain ⟨_, _, hget⟩ := World.cells?_some hcs
      obtain ⟨e, rfl, h2, h3⟩ := ent_cells htr
      have g0 := hget 0 (by omega)
      have g1 := hget 1 (by omega)
      have g2 := hget 2 (by omega)
      rw [add_zero'] at g0
      rw [add_at _ _ _ (by omega)] at g1 g2
      exact ⟨e, ⟨g0, g1, g2⟩, h2, h3⟩
    obtain ⟨F, hF⟩ := choose_lt (p := fun k e => EntAt w (a.add (k * 3)) e ∧ e.key.size ≤ maxLen ∧ e.val.size ≤ maxLen) each
    refine ⟨some a, len, cap, (List.range len).map F, rfl, by omega, ⟨by simp, ?_⟩, ?_⟩
    · intro k e he
      rw [List.getElem?_map] at he
      have hk : k < len := by
        by_cases hk : k < len
        · exact hk
        · rw [List.getElem?_eq_none (by simp; omega)] at he; simp at he
      rw [List.getElem?_range hk] at he
      simp only [Option.map_some, Option.some.injEq] at he
      subst he
      exact ⟨a, rfl, (hF k hk).1⟩
    · intro e he
      obtain ⟨k, hk, rfl⟩ := List.mem_map.1 he
      exact (hF k (List.mem_range.1 hk)).2
/-- a node by value -/
theorem node_of {H : Type} {enc : TypeId × Value → H} {w : World} {base : Nat} {v : Value} {d : DataW H} {ps : List MemPlace} (hok : Value.okWide Try.prog w .any base 24 v) (h : DataW.Trod enc Try.prog w 0 (fun _ => true) true 24 v d ps) :
    ∃ (leaf : Bool) (A : Option Addr) (n c : Nat) (l : List E), v = nodeV leaf A n c ∧ n ≤ maxLen ∧ Ents w A n l ∧ ∀ e ∈ l, e.key.size ≤ maxLen ∧ e.val.size ≤ maxLen := by
  obtain ⟨cs, rfl, hsz⟩ := okWide_struct Try.underlying24 hok
  obtain ⟨fuel, hf⟩ := h
  obtain ⟨xs, n, _, _, hl, hxl, hff⟩ := DataW.trod_struct Try.underlying24 (cs := cs.toList) (by simpa [Value.cells] using hf)
  have hcl : Try.prog.cellsOf 24 = 2 := by kernel_rfl
  obtain ⟨q0, q1, hq⟩ : ∃ a b, cs.toList = [a, b] := by
    match cs.toList, hl.trans hcl with
    | [a, b], _ => exact ⟨a, b, rfl⟩
  rw [hq] at hff
  obtain ⟨y0, y1, rfl⟩ : ∃ y0 y1, xs = [y0, y1] := by
    match xs, hxl with
    | [a, b], _ => exact ⟨a, b, rfl⟩
  have g0 := hff 0 _ rfl
  have g1 := hff 1 _ rfl
  obtain ⟨r0, hr0, _⟩ := DataW.trod_bool (x := y0) Try.underlying4 (cs := [q0]) g0
  obtain ⟨A, m, c, l, hr1, h1, h2, h3⟩ := ents_trod (x := y1) (c0 := q1) g1
  simp only [List.cons.injEq, and_true] at hr0
  subst hr0 hr1
  refine ⟨r0, A, m, c, l, ?_, h1, h2, h3⟩
  unfold nodeV
  congr 1
  exact Array.toList_inj.1 hq
end Go.Proofs.Yticehnnbjbliaab.Nd
