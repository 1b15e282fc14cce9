/- lists and reads plainly. -/
import Derived.Test.YtbelcgjbhpjnpaaGreatDo
set_option linter.all false
set_option linter.unusedVariables false
set_option linter.unusedSimpArgs false
namespace Go.Proofs.YtbelcgjbhpjnpaaGreat.Sh
open Go.RowKit Pk Dk Pg
theorem map_set_same {α β : Type} (l : List α) (g : α → β) (k : Nat) {a b : α} (h : l[k]? = some b) (e : g a = g b) : (l.set k a).map g = l.map g := by
 rw [List.map_set]
 apply List.ext_getElem?
 intro i
 rw [List.getElem?_set]
 have hk := (List.getElem?_eq_some_iff.1 h).1
 split
 ·rename_i hi
  subst hi
  rw [if_pos (by simpa using hk), List.getElem?_map, h, e]
  rfl
 ·rfl
theorem read_pos {a : St} {p : Int} (h : (a.readF p).2 = 0) : 0 ≤ p := by
 by_cases hp : 0 ≤ p
 ·exact hp
 ·exfalso
  unfold St.readF St.at at h
  rw [if_neg hp] at h
  exact absurd h (by decide)
end Go.Proofs.YtbelcgjbhpjnpaaGreat.Sh
