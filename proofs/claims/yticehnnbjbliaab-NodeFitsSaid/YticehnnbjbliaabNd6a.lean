/- nodes: what the document's Right asks. -/
import Derived.Test.YticehnnbjbliaabNd5
namespace Go.Proofs.Yticehnnbjbliaab.Nd
open Go.RowKit Sl
attribute [local go_sem ↓] Go.wp_at_zero Go.wp_at_succ
theorem bool_of (p : Prop) : ∃ b : Bool, b = true ↔ p := by
  by_cases h : p
  · exact ⟨true, by simp [h]⟩
  · exact ⟨false, by simp [h]⟩
theorem rightP_iff (e : E) (leaf : Bool) : rightP e leaf ↔ e.key.size ≤ 32 ∧ e.val.size ≤ 40 ∧ -1 ≤ e.far ∧ e.far ≤ 511 ∧ (0 ≤ e.far → e.val.size = 0) ∧ (e.far < 0 → leaf = true) := by
  unfold rightP
  constructor
  · rintro ⟨h1, h2, h3, h4, h5⟩
    cases leaf
    · simp only [Bool.false_eq_true, if_false] at h3
      exact ⟨h1, h2, by omega, by omega, fun h => by omega, fun h => by omega⟩
    · simp only [if_true] at h3
      exact ⟨h1, h2, by omega, by omega, fun h => by omega, fun _ => rfl⟩
  · rintro ⟨h1, h2, h3, h4, h5, h6⟩
    have h7 : e.far < 0 ∨ e.val.size = 0 := by
      rcases (show e.far < 0 ∨ 0 ≤ e.far by omega) with h | h
      · exact .inl h
      · exact .inr (h5 h)
    cases leaf
    · simp only [Bool.false_eq_true, if_false]
      refine ⟨h1, h2, ?_, by omega, h7⟩
      rcases (show e.far < 0 ∨ 0 ≤ e.far by omega) with h | h
      · exact absurd (h6 h) (by decide)
      · exact h
    · simp only [if_true]
      exact ⟨h1, h2, h3, by omega, h7⟩
end Go.Proofs.Yticehnnbjbliaab.Nd
