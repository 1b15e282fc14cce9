/- slots: do whole, and calls that came in. -/
import Derived.Test.YticehnnbjbliaabSlDo
namespace Go.Proofs.Yticehnnbjbliaab.Sl
open Go.RowKit Go.Deep Go.ChangeShapes Go.WideShapes

theorem compactG_ok {b : List UInt8} (h : Sound b) : compactG b = (compactF b, 0) := by unfold compactG; rw [if_pos ((checkF_ok b).2 h)]
theorem delG_ok {b : List UInt8} (h : Sound b) (i : Nat) (hi : i < (recs b).length) : delG b i = (delF b i, 0) ∧ Sound (delF b i) ∧ recs (delF b i) = (recs b).take i ++ (recs b).drop (i + 1) := by
  rw [recs_length] at hi
  refine ⟨?_, h.delete i hi⟩
  unfold delG
  rw [if_pos ((checkF_ok b).2 h), if_pos ⟨by omega, by omega⟩, Int.toNat_natCast]
theorem delG_range {b : List UInt8} (h : Sound b) (i : Int) (hi : ¬ (0 ≤ i ∧ i < ((recs b).length : Int))) : delG b i = ([], 3) := by
  rw [recs_length] at hi
  unfold delG
  rw [if_pos ((checkF_ok b).2 h), if_neg hi]
/-! calls that came in -/
structure Ac where
  kind : Int
  i : Int
  r : ByteArray
instance : Inhabited Ac := ⟨⟨0, 0, .empty⟩⟩
structure ActAt (w : World) (ad : Addr) (a : Ac) : Prop where
  c0 : w.cell? ad = some (.int .i64 a.kind)
  c1 : w.cell? ⟨ad.block, ad.off + 1, none⟩ = some (.int .i64 a.i)
  c2 : w.cell? ⟨ad.block, ad.off + 2, none⟩ = some (.string a.r)
  hr : a.r.size ≤ 9223372036854775807
def Acts (w : World) (A : Option Addr) (n : Nat) (F : Nat → Ac) : Prop := ∀ k, k < n → ∃ ad, A = some ad ∧ ActAt w (ad.add (k * 3)) (F k)
theorem ActAt.below {w w' : World} {ad : Addr} {a : Ac} (h : ActAt w ad a) (hb : Below w.heap.size w w') : ActAt w' ad a := by
  have hlt := cell_lt' h.c0
  exact ⟨(hb.cell hlt).trans h.c0, (hb.cell (p := ⟨ad.block, ad.off + 1, none⟩) hlt).trans h.c1, (hb.cell (p := ⟨ad.block, ad.off + 2, none⟩) hlt).trans h.c2, h.hr⟩
theorem Acts.below {w w' : World} {A : Option Addr} {n : Nat} {F : Nat → Ac} (h : Acts w A n F) (hb : Below w.heap.size w w') : Acts w' A n F := by
  intro k hk
  obtain ⟨ad, e, h1⟩ := h k hk
  exact ⟨ad, e, h1.below hb⟩
theorem add_at (a : Addr) (i j : Nat) (hj : 0 < j) : (a.add i).add j = ⟨(a.add i).block, (a.add i).off + j, none⟩ := by
  rw [Addr.add, if_neg (by omega)]
theorem add_zero' (a : Addr) : a.add 0 = a := by simp [Addr.add]
end Go.Proofs.Yticehnnbjbliaab.Sl
