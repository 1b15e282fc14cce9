/- more words: append kept from the walk's own steps; one element more. -/
import Derived.Test.YtmofbgcanehdoaaKit
namespace Go.Proofs.Ytmofbgcanehdoaa
open Go.RowKit
/-- an append's run, under a name: the walk's simp does not open it; lay 'appRun .. = .ok v w'' -/
noncomputable def appRun (P : Program) (T ty : TypeId) (w : World) (s x : Value) : Result Value := (Builtin.append_ #[T, T] ty #[s, x]).run P w
theorem exec_app (P : Program) (ρ : Operand → Value) (dst : Option Tmp) (s x : Operand) (T t : TypeId) (p : String) (af : Array Edge) (g : Option (Nat × Bool)) (w : World) :
    (execOp ρ { dst := dst, op := .call { callee := .builtin .append, args := #[s, x], argTypes := #[T, T] }, type := t, pos := p, after := af, guard := g }).run P w = (appRun P T t w (ρ s) (ρ x)).andThen fun v w' => .ok (.value v) w' := by
  simp [execOp, resolve, invoke, builtin, appRun]
theorem append_one {P : Program} {w : World} {e : TypeId} {v : Value} {n : Nat} {l : List Value} (S : Slc w e 1 v n l)
    (T ty : TypeId) (z : Value) (bytes : Nat) (ht : P.underlying T = some (.slice e)) (hinfo : (P.info? e).map (fun i => (i.zero, i.size, i.bytes)) = some (some z, 1, bytes)) (hz : z.cells.size = 1)
    (x : Value) (hx : x.oneCell' = true) (h63 : n + 1 ≤ maxLen) (hb : (n + 1) * bytes ≤ 140737488355328) :
    ∃ v' w', appRun P T ty (w.alloc (.cells #[x] e)) v (.slice (some ⟨w.heap.size, 0, none⟩) 1 1) = .ok v' w' ∧ Slc w' e 1 v' (n + 1) (l ++ [x]) ∧ Only (ownB v) w w' ∧ (∀ g ∈ ownB v', g ∈ ownB v ∨ w.heap.size ≤ g) := by
  obtain ⟨i0, hi, hz0, hz1, hz2⟩ := info_parts hinfo
  obtain ⟨v', w', h1, h2, h3, h4⟩ := append_slc (P := P) (S.alloc (.cells #[x] e)) T ty i0 z bytes ht hi hz0 hz1 hz2 hz (by omega)
    ⟨w.heap.size, 0, none⟩ 1 1 [x] rfl (cells_at (l := [x]) (Blk.new w e #[x]) 0 _ (by simp)) (by intro u hu; simp at hu; subst hu; exact hx) h63 hb
  exact ⟨v', w', h1, h2, ((Only.refl _ _).alloc _).trans_of h3 (fun x hx _ => hx), fun g hg => (h4 g hg).imp id (fun h => by simp at h; omega)⟩
theorem slc_val {w : World} {e : TypeId} {size n : Nat} {v : Value} {l : List Value} (S : Slc w e size v n l) : ∃ A c, v = .slice A n c := by
  rcases S.2 with ⟨rfl, rfl⟩ | ⟨g, cap, rest, rfl, _⟩
  · exact ⟨none, 0, rfl⟩
  · exact ⟨_, cap, rfl⟩
end Go.Proofs.Ytmofbgcanehdoaa
