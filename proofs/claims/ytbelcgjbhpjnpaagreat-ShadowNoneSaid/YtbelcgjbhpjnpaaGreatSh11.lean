/- pool by its contracts: the word, find. -/
import Derived.Test.YtbelcgjbhpjnpaaGreatSh10
namespace Go.Proofs.YtbelcgjbhpjnpaaGreat.Sh
open Go.RowKit Pk Dk Pg
attribute [local go_sem ↓] Go.wp_at_zero Go.wp_at_succ
/-- where a pool lies -/
structure Y where
  x : X
  pb : Nat
  fg : Nat
  cp : Nat
/-- a pool's state -/
structure PS where
  c : C
  l : List Fr
  hand : Nat
def pp (b : Nat) : Value := .pointer (some ⟨b, 0, none⟩)
def Y.fp (y : Y) : List Nat := y.pb :: y.fg :: y.x.fp
structure AtP (w : World) (y : Y) (n : Nat) (s : PS) : Prop where
  hp : Blk w y.pb 148 #[sp y.x.b, .slice (some ⟨y.fg, 0, none⟩) s.l.length y.cp, .int .i64 (s.hand : Nat)]
  hf : Slc w 150 5 (.slice (some ⟨y.fg, 0, none⟩) s.l.length y.cp) s.l.length (frc s.l)
  hs : At w y.x n s.c
  n1 : y.pb ∉ y.x.fp
  n2 : y.fg ∉ y.x.fp
  l1 : 1 ≤ s.l.length
  l2 : s.l.length ≤ 32
  lh : s.hand < s.l.length
section
variable {w w' : World} {y : Y} {n : Nat} {s : PS} {S : List Nat}
theorem AtP.n3 (h : AtP w y n s) : y.pb ≠ y.fg := fun e => slc_ne h.hf h.hp (by decide) (by simp [ownB, e])
theorem AtP.only (h : AtP w y n s) (ho : Only S w w') (hd : ∀ g ∈ y.fp, g ∉ S) : AtP w' y n s :=
  ⟨h.hp.only ho (hd _ (by simp [Y.fp])), h.hf.only ho (fun g hg => hd g (by simp [ownB] at hg; simp [Y.fp, hg])), h.hs.only ho (fun g hg => hd g (by simp [Y.fp, hg])), h.n1, h.n2, h.l1, h.l2, h.lh⟩
theorem AtP.below (h : AtP w y n s) (hb : Below w.heap.size w w') : AtP w' y n s := h.only (S := []) (.of_below hb) (by simp)
theorem AtP.drew (h : AtP w y n s) : AtP w.drew y n s := h.below ((Below.refl _ _).drew)
theorem AtP.lt (h : AtP w y n s) : ∀ g ∈ y.fp, g < w.heap.size := by
  intro g hg
  simp only [Y.fp, List.mem_cons] at hg
  rcases hg with rfl | rfl | hg
  · exact h.hp.lt
  · exact h.hf.lt _ (by simp [ownB])
  · exact h.hs.lt g hg
theorem AtP.p0 (h : AtP w y n s) : w.cell? ⟨y.pb, 0, none⟩ = some (.pointer (some ⟨y.x.b, 0, none⟩)) := h.hp.cell_some rfl
theorem AtP.p1 (h : AtP w y n s) : w.cell? ⟨y.pb, 1, none⟩ = some (.slice (some ⟨y.fg, 0, none⟩) s.l.length y.cp) := h.hp.cell_some rfl
theorem AtP.p2 (h : AtP w y n s) : w.cell? ⟨y.pb, 2, none⟩ = some (.int .i64 (s.hand : Nat)) := h.hp.cell_some rfl
theorem AtP.frs (h : AtP w y n s) : FrsAt w y.fg s.l := by
  obtain ⟨rest, B, _⟩ := h.hf.blk
  exact .of B
/-- the store's side changed -/
theorem AtP.store (h : AtP w y n s) {c' : C} (p : ∃ x', x'.b = y.x.b ∧ x'.L = y.x.L ∧ At w' x' n c' ∧ Only y.x.fp w w' ∧ ∀ g ∈ x'.fp, g ∈ y.x.fp ∨ w.heap.size ≤ g) :
    ∃ y', y'.pb = y.pb ∧ y'.fg = y.fg ∧ y'.cp = y.cp ∧ y'.x.b = y.x.b ∧ y'.x.L = y.x.L ∧ AtP w' y' n { s with c := c' } ∧ Only y.fp w w' ∧ ∀ g ∈ y'.fp, g ∈ y.fp ∨ w.heap.size ≤ g := by
  obtain ⟨x', e1, e2, A, o, fr⟩ := p
  have l1 := h.lt y.pb (by simp [Y.fp])
  have l2 := h.lt y.fg (by simp [Y.fp])
  refine ⟨⟨x', y.pb, y.fg, y.cp⟩, rfl, rfl, rfl, e1, e2, ⟨?_, h.hf.only o (fun g hg => by simp [ownB] at hg; subst hg; exact h.n2), A, ?_, ?_, h.l1, h.l2, h.lh⟩, o.mono (fun g hg _ => by simp [Y.fp, hg]), ?_⟩
  · show Blk w' y.pb _ #[sp x'.b, _, _]
    rw [e1]
    exact h.hp.only o h.n1
  · exact fun hg => (fr _ hg).elim h.n1 (fun h => absurd l1 (Nat.not_lt.2 h))
  · exact fun hg => (fr _ hg).elim h.n2 (fun h => absurd l2 (Nat.not_lt.2 h))
  · intro g hg
    simp only [Y.fp, List.mem_cons] at hg ⊢
    rcases hg with rfl | rfl | hg
    · exact .inl (.inl rfl)
    · exact .inl (.inr (.inl rfl))
    · exact (fr g hg).imp (fun h => .inr (.inr h)) id
end
set_option maxHeartbeats 1000000 in
theorem find_any {w : World} {y : Y} {n : Nat} {s : PS} (h : AtP w y n s) (l : Int) :
    Calls Tryz.prog 127 #[pp y.pb, .int .i64 l] w fun e w' => e = .returned (.int .i64 (findF s.l l)) ∧ Below w.heap.size w w' := by
  have O0 := Lib.hid (belowAlloc (Below.refl w.heap.size w) (.cells #[.int .i64 l] 3))
  have B0 := Lib.hid (Blk.new w 3 #[.int .i64 l])
  have H0 := h.below O0.out
  have q0 := B0.out.cell_some (i := 0) rfl
  have KI := Lib.hid (ixfind_any y.fg s.l.length y.cp w.heap.size l s.l H0.frs rfl (by have := h.l2; omega) q0)
  have p1 := H0.p1
  obtain ⟨R, hR⟩ : ∃ R, findF s.l l = R := ⟨_, rfl⟩
  rw [hR]
  unfold findF at hR
  generalize s.l.length = tn at *
  clear H0 h
  unfold pp
  by_cases h1 : l < 0
  · rw [if_pos h1] at hR
    subst hR
    go_enter Tryz.func127, Tryz.ntmps127
    go_wp2_with fail
    go_ret
    exact ⟨by first | rfl | simp, O0.out⟩
  · rw [if_neg h1] at hR
    rw [hR] at KI
    clear hR
    go_enter Tryz.func127, Tryz.ntmps127
    go_wp2_with fail
    refine KI.out.mono ?_
    rintro e w1 ⟨rfl, hb1⟩
    have O1 := Lib.hid (bstep O0.out hb1)
    clear hb1
    go_wp2_with fail
    go_ret
    exact ⟨by first | rfl | simp, O1.out⟩
end Go.Proofs.YtbelcgjbhpjnpaaGreat.Sh
