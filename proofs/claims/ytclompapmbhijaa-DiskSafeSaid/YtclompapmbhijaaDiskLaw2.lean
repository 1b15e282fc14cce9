/- a list appended to an empty one, at a step of a region that draws its order; what a crash leaves, sector by sector. -/
import Derived.Test.YtclompapmbhijaaDiskLaw
import Derived.Deep.RegionHeld3
import Derived.Deep.DrawnRows
import Derived.Deep.Cut
import Derived.Deep.CutRange
import Derived.Deep.AppendLies
namespace Go.Proofs.Ytclompapmbhijaa.Dk
open Go.RowKit
/-- w1 is w0 but for what is new -/
def Since (w0 w1 : World) : Prop := Below w0.heap.size w0 w1
theorem Since.drew {w0 : World} : Since w0 w0.drew := (Below.refl _ _).drew
theorem Since.alloc {w0 w1 : World} (h : Since w0 w1) (o : Obj) : Since w0 (w1.alloc o) := Below.alloc h h.size o
theorem belowAlloc {W w1 : World} (h : Below W.heap.size W w1) (o : Obj) : Below W.heap.size W (w1.alloc o) := h.alloc h.size o
theorem belowDrew {W w1 : World} (h : Below W.heap.size W w1) : Below W.heap.size W w1.drew := h.drew
/-- AT A STEP: append(v, xs..), v empty and without room -/
theorem step_append_new {P : Program} {ops : Array Oper} {o : Oper} {a : Act} {K : Act → World → Prop} {Q : Exit → Act → World → Prop} {E : Prop} {W : World} (hgd : o.guard = none) (s x : Operand) (t : TypeId)
    (ho : o.op = .call { callee := .builtin .append, args := #[s, x], argTypes := #[t, t] })
    (w0 : World) (e : TypeId) (z : Value) (bytes : Nat) (ht : P.underlying t = some (.slice e)) (hinfo : (P.info? e).map (fun i => (i.zero, i.size, i.bytes)) = some (some z, 1, bytes)) (hz : z.cells.size = 1)
    (g : Nat) (hs : a.eval s = .slice (some ⟨g, 0, none⟩) 0 0) (A : Addr) (m c : Nat) (news : List Value) (hx : a.eval x = .slice (some A) m c) (hl : news.length = m) (hm : 0 < m) (hm1 : m ≤ 100000) (hb : bytes ≤ 16)
    (hsrc : ∀ W, Since w0 W → ∀ j u, news[j]? = some u → W.cell? (A.add j) = some u) (hW : Since w0 W)
    (h : ∀ v' w', Slc w' e 1 v' m news → (∀ g ∈ ownB v', w0.heap.size ≤ g) → Since w0 w' → Below W.heap.size W w' → K (a.put o.dst v') w') :
    if Region.wanted o (yielded ops a.tmps) = true then Oper.wp P o a W K Q else E := by
  have hw : Region.wanted o (yielded ops a.tmps) = true := by simp [Region.wanted, hgd]
  rw [if_pos hw]
  obtain ⟨i0, hi, hz0, hz1, hz2⟩ := info_parts hinfo
  obtain ⟨v', w', hrun, h2, h3⟩ := run_append_arg_grows (P := P) W t o.type e i0 z 1 bytes ht hi hz0 hz1 hz2 hz (by omega) ⟨g, 0, none⟩ 0 0 [] rfl (by intro j u hu; simp at hu) A m c news (by omega) (hsrc W hW) (by omega) (by unfold maxLen; omega) (by
    have : (0 + m) * bytes ≤ 100000 * 16 := Nat.mul_le_mul (by omega) hb
    omega)
  have S := Slc.of_own h2
  have hbw : Below W.heap.size W w' := ((Only.refl [] W).grown h3 (by simp)).below_nil
  rw [Nat.zero_add, List.nil_append] at S
  have hfr : ∀ g ∈ ownB v', w0.heap.size ≤ g := by
    intro g' hg
    rcases h2.2 with ⟨rfl, _⟩ | ⟨g'', cap', cur, rfl, hb', _⟩
    · simp [ownB] at hg
    · simp [ownB] at hg; subst hg; exact Nat.le_trans hW.size hb'
  unfold Oper.wp execOp
  simp only [ho, resolve, invoke, builtin, Sem.run_bind, Sem.run_pure, Result.andThen_ok, List.map_toArray, List.map_cons, List.map_nil, hs, hx, hrun]
  exact h v' w' S hfr (hW.trans (hbw.mono hW.size)) hbw
end Go.Proofs.Ytclompapmbhijaa.Dk
