/- slots by its contracts: Delete whole. -/
import Derived.Test.YticehnnbjbliaabSl10
namespace Go.Proofs.Yticehnnbjbliaab.Sl
open Go.RowKit
attribute [local go_sem ↓] Go.wp_at_zero Go.wp_at_succ
attribute [local go_sem ↓] exec_app

/-- append(l[:i:i], l[i+1:]..) -/
theorem append_del {w : World} {g n c : Nat} {l : List Slot} (S : Slc w 81 2 (.slice (some ⟨g, 0, none⟩) n c) n (sc l)) (i : Nat) (hi : i < n) (hn : n ≤ 1000000) (o cc : Nat) (ho : o = (i + 1) * 2 ∨ n - (i + 1) = 0) :
    ∃ X z cz w', appRun Try.prog 78 78 w (.slice (some ⟨g, 0, none⟩) i i) (.slice (some ⟨g, o, none⟩) (n - (i + 1)) cc) = .ok (.slice X z cz) w' ∧ SlRd w' (.slice X z cz) (l.take i ++ l.drop (i + 1)) ∧ Below w.heap.size w w' := by
  obtain ⟨i0, hi0, hz0, hz1, hz2⟩ := info_parts_slot
  have hl := S.1
  rw [sc_length] at hl
  obtain ⟨rest, B, hc, -, -⟩ := S.blk
  have hll : l.length = n := by omega
  have hdl : (l.drop (i + 1)).length = n - (i + 1) := by rw [List.length_drop]; omega
  have hcells : ∀ j u, (sc (l.drop (i + 1)))[j]? = some u → w.cell? ((⟨g, o, none⟩ : Addr).add j) = some u := cells_at B o _ (by
    intro j u hu
    have hj : j < (sc (l.drop (i + 1))).length := (List.getElem?_eq_some_iff.1 hu).1
    rw [sc_length] at hj
    rcases ho with rfl | h0
    · have hti : (sc (l.take (i + 1))).length = (i + 1) * 2 := by rw [sc_length, List.length_take]; omega
      rw [sc_split l (i + 1), List.append_assoc, List.getElem?_append_right (by omega), hti, Nat.add_sub_cancel_left, List.getElem?_append_left (by rw [sc_length]; exact hj)]
      exact hu
    · omega)
  rcases Nat.eq_zero_or_pos (n - (i + 1)) with hz | hp
  · have hd : l.drop (i + 1) = [] := List.eq_nil_of_length_eq_zero (by omega)
    rw [hd, List.append_nil, hz]
    have hrun := run_append_room_cells (P := Try.prog) w 78 78 81 i0 Try.underlying78 hi0 g 0 i i ⟨g, o, none⟩ 0 cc [] (by simp) (by simp) (by simp) (by omega) (fun j hj => by simp at hj) (fun j hj => by simp at hj)
    rw [Nat.add_zero] at hrun
    refine ⟨_, _, _, w, hrun, ?_, Below.refl _ _⟩
    refine ⟨_, i, by rw [List.length_take, hll, Nat.min_eq_left (by omega)], fun hp => ⟨g, _, rfl, B, fun j u hu => ?_⟩⟩
    have hj : j < (sc (l.take i)).length := (List.getElem?_eq_some_iff.1 hu).1
    rw [List.getElem?_toArray, sc_split l i, List.append_assoc, List.getElem?_append_left hj]
    exact hu
  · obtain ⟨v', w', h1, h2, h3, _⟩ := append_cutN S i (by omega) hn ⟨g, o, none⟩ cc (l.drop (i + 1)) (by omega) (by omega) hcells
    rw [hdl] at h1
    obtain ⟨X, cz, rfl⟩ := slc_val h2
    exact ⟨_, _, _, w', h1, SlRd.of h2, h3⟩
end Go.Proofs.Yticehnnbjbliaab.Sl
