/- a pool and the document's, side by side. -/
import Derived.Test.YtbelcgjbhpjnpaaGreatQe
import Derived.Test.YtbelcgjbhpjnpaaGreatHq
import Derived.Test.YtbelcgjbhpjnpaaGreatZg
set_option linter.all false
set_option linter.unusedVariables false
set_option linter.unusedSimpArgs false
namespace Go.Proofs.YtbelcgjbhpjnpaaGreat.Sh
open Go.RowKit Pk Dk Pg
theorem At.alien2 {w : World} {x : X} {n : Nat} {c : C} (h : At w x n c) {g : Nat} {t : TypeId} {cs : Array Value} (B : Blk w g t cs) (h1 : t ≠ 115) (h2 : t ≠ 181) (h3 : t ≠ 3) (h4 : t ≠ 111) (h5 : t ≠ 140) (h6 : t ≠ 4) (h7 : t ≠ 185) : g ∉ x.fp := by
 intro hg
 simp only [X.fp, List.mem_cons, List.mem_append] at hg
 have hs : ∀ {v : Value} {k : Nat} {l : List Value}, Sl w 3 v k l → g ∉ ownS v := fun S hg => by
  obtain ⟨cs', B'⟩ := sl_int S _ hg
  exact B.ne_ B' h3 rfl
 rcases hg with rfl | rfl | rfl | ((hg | hg) | hg) | hg
 ·exact B.ne_ h.hb h1 rfl
 ·exact B.ne_ h.hm.hb h2 rfl
 ·exact B.ne_ h.hm.hg h3 rfl
 ·simp only [Loc.fp, List.mem_cons, List.not_mem_nil, or_false] at hg
  rcases hg with rfl | rfl | rfl | rfl
  ·exact B.ne_ h.hd.hb h4 rfl
  ·exact B.ne_ h.hd.hN h5 rfl
  ·exact B.ne_ h.hd.hO h5 rfl
  ·exact B.ne_ h.hd.hL h6 rfl
 ·exact hs h.ht hg
 ·exact hs h.ho hg
 ·exact h.hp.far B h3 h7 hg
theorem AtP.alien {w : World} {y : Y} {n : Nat} {s : PS} (h : AtP w y n s) {g : Nat} {t : TypeId} {cs : Array Value} (B : Blk w g t cs) (ha : t ≠ 148) (hb : t ≠ 150) (h1 : t ≠ 115) (h2 : t ≠ 181) (h3 : t ≠ 3) (h4 : t ≠ 111) (h5 : t ≠ 140) (h6 : t ≠ 4) (h7 : t ≠ 185) : g ∉ y.fp := by
 intro hg
 simp only [Y.fp, List.mem_cons] at hg
 rcases hg with rfl | rfl | hg
 ·exact B.ne_ h.hp ha rfl
 ·exact slc_ne h.hf B (by exact hb) (by simp [ownB])
 ·exact h.hs.alien2 B h1 h2 h3 h4 h5 h6 h7 hg
theorem frame_blk {w : World} {e : TypeId} {z n : Nat} {v : Value} {l : List Value} (h : Slc w e z v n l) : ∀ g ∈ ownB v, ∃ cs, Blk w g e cs := by
 intro g hg
 rcases h.2 with ⟨rfl, _⟩ | ⟨g', cap, rest, rfl, B, _⟩
 ·simp [ownB] at hg
 ·simp [ownB] at hg
  subst hg
  exact ⟨_, B⟩
theorem RPAt.apart {w : World} {y : Y} {n : Nat} {s : PS} {xq rs : Nat} {fv nv ov : Value} {q : QS} (A : AtP w y n s) (h : RPAt w xq rs fv nv ov q) : ∀ g ∈ xq :: rs :: (ownB fv ++ (ownB nv ++ ownB ov)), g ∉ y.fp := by
 intro g hg
 have hb : ∃ t cs, (t = 86 ∨ t = 88 ∨ t = 47 ∨ t = 91) ∧ Blk w g t cs := by
  simp only [List.mem_cons, List.mem_append] at hg
  rcases hg with rfl | rfl | hg | hg
  ·exact ⟨_, _, .inl rfl, h.hp⟩
  ·exact ⟨_, _, .inr (.inr (.inl rfl)), h.hs.hb⟩
  ·obtain ⟨cs, B⟩ := frame_blk h.hf g hg
   exact ⟨_, cs, .inr (.inl rfl), B⟩
  ·obtain ⟨t, cs, ht, B⟩ := h.hs.blk' g (by simp; right; exact hg)
   rcases ht with rfl | rfl
   ·exact ⟨_, cs, .inr (.inr (.inl rfl)), B⟩
   ·exact ⟨_, cs, .inr (.inr (.inr rfl)), B⟩
 obtain ⟨t, cs, ht, B⟩ := hb
 rcases ht with rfl | rfl | rfl | rfl <;> exact A.alien B (by decide) (by decide) (by decide) (by decide) (by decide) (by decide) (by decide) (by decide) (by decide)
/-- a pool and the document's, between two calls -/
structure PX (w0 w : World) (pq xq rs n : Nat) (qp qx : QS) (K : Nat) : Prop where
 p : ∃ y, y.pb = pq ∧ ZP w y n qp K ∧ ∀ g ∈ y.fp, w0.heap.size ≤ g
 x : RX w xq rs qx
 hp : Hq qp n K
 hx : Hq qx n K
 b : Below w0.heap.size w0 w
 f : w0.heap.size ≤ xq ∧ w0.heap.size ≤ rs
section
variable {w0 w w' W : World} {pq xq rs n K : Nat} {qp qx : QS}
theorem PX.below (S : PX w0 w pq xq rs n qp qx K) (hb : Below w.heap.size w w') : PX w0 w' pq xq rs n qp qx K := by
 obtain ⟨y, e, Z, f⟩ := S.p
 exact ⟨⟨y, e, Z.below hb, f⟩, S.x.below hb, S.hp, S.hx, bstep S.b hb, S.f⟩
theorem PX.more (S : PX w0 w pq xq rs n qp qx K) {K' : Nat} (hk : K ≤ K') : PX w0 w pq xq rs n qp qx K' := by
 obtain ⟨y, e, Z, f⟩ := S.p
 exact ⟨⟨y, e, Z.more hk, f⟩, S.x, S.hp.more hk, S.hx.more hk, S.b, S.f⟩
/-- a call of the program's pool -/
theorem PX.prog (S : PX w0 w pq xq rs n qp qx K) {y : Y} {c : C} (e : y.pb = pq) (A : AtP w y n (qp.ps c)) (f : ∀ g ∈ y.fp, w0.heap.size ≤ g) {qp' : QS} {K' : Nat} (hK : K ≤ K') (H' : Hq qp' n K') (p : ZTo w w' y n qp' K') : PX w0 w' pq xq rs n qp' qx K' := by
 obtain ⟨y', e1, _, _, Z', o, f'⟩ := p
 obtain ⟨fv, nv, ov, R⟩ := S.x
 have hb : Below w0.heap.size w0 w' := S.b.trans (o.below_of S.b.size f)
 exact ⟨⟨y', e1.trans e, Z', fun g hg => (f' g hg).elim (f g) (fun h => Nat.le_trans S.b.size h)⟩, ⟨_, _, _, R.only o (R.apart A)⟩, H', S.hx.more hK, hb, S.f⟩
theorem PX.doc (S : PX w0 w pq xq rs n qp qx K) {qx' : QS} {K' : Nat} (hK : K ≤ K') (H' : Hq qx' n K') (x : RX w' xq rs qx') (o : Only [xq, rs] w w') : PX w0 w' pq xq rs n qp qx' K' := by
 obtain ⟨y, e, ⟨c, A, z⟩, f⟩ := S.p
 obtain ⟨fv, nv, ov, R⟩ := S.x
 have hap := R.apart A
 have hb : Below w0.heap.size w0 w' := S.b.trans (o.below_of S.b.size (fun g hg => by
  simp only [List.mem_cons, List.not_mem_nil, or_false] at hg
  rcases hg with rfl | rfl
  ·exact S.f.1
  ·exact S.f.2))
 exact ⟨⟨y, e, ⟨c, A.only o (fun g hg hm => by
  simp only [List.mem_cons, List.not_mem_nil, or_false] at hm
  rcases hm with rfl | rfl
  ·exact hap _ (by simp) hg
  ·exact hap _ (by simp) hg), z.more hK⟩, f⟩, x, S.hp.more hK, H', hb, S.f⟩
end
end Go.Proofs.YtbelcgjbhpjnpaaGreat.Sh
