/- nodes: slices of entries of the call's own. -/
import Derived.Test.YticehnnbjbliaabNd6
namespace Go.Proofs.Yticehnnbjbliaab.Nd
open Go.RowKit Sl
def ents (l : List E) : List Value := l.flatMap E.cells
theorem ents_nil : ents [] = [] := rfl
theorem ents_snoc (l : List E) (e : E) : ents (l ++ [e]) = ents l ++ e.cells := by simp [ents]
theorem ents_cons (e : E) (l : List E) : ents (e :: l) = e.cells ++ ents l := by simp [ents]
theorem ents_append (l m : List E) : ents (l ++ m) = ents l ++ ents m := by simp [ents]
theorem ents_length (l : List E) : (ents l).length = l.length * 3 := by
  induction l with
  | nil => rfl
  | cons e l ih => rw [ents_cons, List.length_append, ih]; simp [E.cells]; omega
theorem ents_get {l : List E} {k : Nat} {e : E} (h : l[k]? = some e) (j : Nat) (hj : j < 3) : (ents l)[k * 3 + j]? = e.cells[j]? := by
  induction l generalizing k with
  | nil => simp at h
  | cons x l ih =>
    rw [ents_cons]
    cases k with
    | zero =>
      simp only [List.getElem?_cons_zero, Option.some.injEq] at h
      subst h
      rw [List.getElem?_append_left (by simp [E.cells]; omega)]; congr 1; omega
    | succ k =>
      rw [List.getElem?_cons_succ] at h
      rw [List.getElem?_append_right (by simp [E.cells]; omega), ← ih h]
      congr 1; simp [E.cells]; omega
theorem addr_at (g o j : Nat) : (⟨g, o, none⟩ : Addr).add j = ⟨g, o + j, none⟩ := by
  unfold Addr.add
  split
  · next h => rw [h]; rfl
  · rfl
/-- the cells of a block of entries, seen as entries -/
theorem blk_ents {w : World} {g : Nat} {t : TypeId} {l : List E} {rest : List Value} (B : Blk w g t (ents l ++ rest).toArray) (k : Nat) (e : E) (h : l[k]? = some e) : EntAt w ((⟨g, 0, none⟩ : Addr).add (k * 3)) e := by
  have hk := (List.getElem?_eq_some_iff.1 h).1
  have hlen := ents_length l
  have key : ∀ j, j < 3 → (ents l ++ rest).toArray[k * 3 + j]? = e.cells[j]? := fun j hj => by
    rw [List.getElem?_toArray, List.getElem?_append_left (by omega), ents_get h j hj]
  rw [addr_at, Nat.zero_add]
  exact ⟨(B.cell _).trans (key 0 (by omega)), (B.cell _).trans (key 1 (by omega)), (B.cell _).trans (key 2 (by omega))⟩
theorem Slc.ents {w : World} {t : TypeId} {A : Option Addr} {n c m : Nat} {l : List E} (S : Slc w t 3 (.slice A n c) m (ents l)) : n = m ∧ Ents w A m l := by
  have hl := S.1
  rw [ents_length] at hl
  have hlm : l.length = m := by omega
  rcases S.2 with ⟨hv, h0⟩ | ⟨g, cap, rest, hv, B, hc, _⟩
  · simp only [Value.slice.injEq] at hv
    obtain ⟨rfl, rfl, rfl⟩ := hv
    refine ⟨h0.symm, hlm, fun k e he => ?_⟩
    have := (List.getElem?_eq_some_iff.1 he).1
    omega
  · simp only [Value.slice.injEq] at hv
    obtain ⟨rfl, rfl, rfl⟩ := hv
    exact ⟨rfl, hlm, fun k e he => ⟨_, rfl, blk_ents B k e he⟩⟩
theorem Slc.len {w : World} {t : TypeId} {A : Option Addr} {n c m s : Nat} {l : List Value} (S : Slc w t s (.slice A n c) m l) : n = m := by
  rcases S.2 with ⟨hv, h0⟩ | ⟨g, cap, rest, hv, B, hc, _⟩
  · simp only [Value.slice.injEq] at hv
    obtain ⟨rfl, rfl, rfl⟩ := hv
    exact h0.symm
  · simp only [Value.slice.injEq] at hv
    obtain ⟨rfl, rfl, rfl⟩ := hv
    rfl
theorem append_ent {P : Program} {w : World} {t : TypeId} {v : Value} {n : Nat} {l : List Value} (S : Slc w t 3 v n l)
    (T ty : TypeId) (z : Value) (bytes : Nat) (ht : P.underlying T = some (.slice t)) (hinfo : (P.info? t).map (fun i => (i.zero, i.size, i.bytes)) = some (some z, 3, bytes)) (hz : z.cells.size = 3)
    (e : E) (h63 : n + 1 ≤ maxLen) (hb : (n + 1) * bytes ≤ 140737488355328) :
    ∃ v' w', appRun P T ty (w.alloc (.cells #[.string e.key, .string e.val, .int .i64 e.far] t)) v (.slice (some ⟨w.heap.size, 0, none⟩) 1 1) = .ok v' w' ∧ Slc w' t 3 v' (n + 1) (l ++ e.cells) ∧ Only (ownB v) w w' ∧ (∀ g ∈ ownB v', g ∈ ownB v ∨ w.heap.size ≤ g) := by
  obtain ⟨i0, hi, hz0, hz1, hz2⟩ := info_parts hinfo
  obtain ⟨v', w', h1, h2, h3, h4⟩ := append_slc (P := P) (S.alloc (.cells #[.string e.key, .string e.val, .int .i64 e.far] t)) T ty i0 z bytes ht hi hz0 hz1 hz2 hz (by omega)
    ⟨w.heap.size, 0, none⟩ 1 1 e.cells rfl (cells_at (l := e.cells) (Blk.new w t #[.string e.key, .string e.val, .int .i64 e.far]) 0 _ (by intro j v hv; rw [Nat.zero_add]; exact hv)) (by intro u hu; simp [E.cells] at hu; rcases hu with rfl | rfl | rfl <;> rfl) h63 hb
  exact ⟨v', w', h1, h2, ((Only.refl _ _).alloc _).trans_of h3 (fun x hx _ => hx), fun g hg => (h4 g hg).imp id (fun h => by simp at h; omega)⟩
end Go.Proofs.Yticehnnbjbliaab.Nd
