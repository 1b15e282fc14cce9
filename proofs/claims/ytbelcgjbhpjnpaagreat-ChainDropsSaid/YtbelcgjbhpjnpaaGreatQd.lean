/- the document's pool by its contracts: the word, set, Find. -/
import Derived.Test.YtbelcgjbhpjnpaaGreatZs
import Derived.Test.YtbelcgjbhpjnpaaGreatTa
set_option linter.all false
set_option linter.unusedVariables false
set_option linter.unusedSimpArgs false
namespace Go.Proofs.YtbelcgjbhpjnpaaGreat.Sh
open Go.RowKit Pk Dk Pg
attribute [local go_sem ↓] Go.wp_at_zero Go.wp_at_succ exec_app
/-- the document's pool -/
structure RPAt (w : World) (pq rs : Nat) (fv nv ov : Value) (q : QS) : Prop where
 hp : Blk w pq 86 #[rp rs, fv, .int .i64 (q.hand : Nat)]
 hf : Slc w 88 5 fv q.l.length (frc q.l)
 hs : RAt w rs nv ov q.a
 l1 : 1 ≤ q.l.length
 l2 : q.l.length ≤ 32
 lh : q.hand < q.l.length
section
variable {w w' : World} {pq rs : Nat} {fv nv ov : Value} {q : QS} {S : List Nat}
theorem RPAt.only (h : RPAt w pq rs fv nv ov q) (o : Only S w w') (hd : ∀ g ∈ pq :: rs :: (ownB fv ++ (ownB nv ++ ownB ov)), g ∉ S) : RPAt w' pq rs fv nv ov q :=
 ⟨h.hp.only o (hd pq (by simp)), h.hf.only o (fun g hg => hd g (by simp [hg])), h.hs.only o (fun g hg => hd g (by simp at hg ⊢; rcases hg with h | h | h <;> simp [h])), h.l1, h.l2, h.lh⟩
theorem RPAt.below (h : RPAt w pq rs fv nv ov q) (hb : Below w.heap.size w w') : RPAt w' pq rs fv nv ov q := h.only (S := []) (.of_below hb) (by simp)
theorem RPAt.fs (h : RPAt w pq rs fv nv ov q) : ∃ g cp, fv = .slice (some ⟨g, 0, none⟩) q.l.length cp := by
 obtain ⟨g, cp, _, e, _⟩ := h.hf.form (by have := h.l1; omega) (by omega)
 exact ⟨g, cp, e⟩
theorem RPAt.p0 (h : RPAt w pq rs fv nv ov q) : w.cell? ⟨pq, 0, none⟩ = some (.pointer (some ⟨rs, 0, none⟩)) := h.hp.cell_some rfl
theorem RPAt.p1 (h : RPAt w pq rs fv nv ov q) : w.cell? ⟨pq, 1, none⟩ = some fv := h.hp.cell_some rfl
theorem RPAt.p2 (h : RPAt w pq rs fv nv ov q) : w.cell? ⟨pq, 2, none⟩ = some (.int .i64 (q.hand : Nat)) := h.hp.cell_some rfl
theorem RPAt.frs {g cp : Nat} (h : RPAt w pq rs (.slice (some ⟨g, 0, none⟩) q.l.length cp) nv ov q) : FrsAt w g q.l := by
 obtain ⟨g', cp', rest, e, B, _⟩ := h.hf.form (by have := h.l1; omega) (by omega)
 injection e with e
 injection e with e
 injection e with e
 subst e
 exact .of B
end
theorem RAt.blk' {w : World} {b : Nat} {nv ov : Value} {a : St} (h : RAt w b nv ov a) : ∀ g ∈ b :: (ownB nv ++ ownB ov), ∃ t cs, (t = 47 ∨ t = 91) ∧ Blk w g t cs := by
 have sb : ∀ {v : Value} {l : List Sl14}, SlAt w v l → ∀ g ∈ ownB v, ∃ cs, Blk w g 91 cs := fun S g hg => by
  rcases S.2 with ⟨rfl, _⟩ | ⟨g', cap, rest, rfl, B, _⟩
  ·simp [ownB] at hg
  ·simp [ownB] at hg
   subst hg
   exact ⟨_, B⟩
 intro g hg
 simp only [List.mem_cons, List.mem_append] at hg
 rcases hg with rfl | hg | hg
 ·exact ⟨_, _, .inl rfl, h.hb⟩
 ·obtain ⟨cs, B⟩ := sb h.hn g hg
  exact ⟨_, cs, .inr rfl, B⟩
 ·obtain ⟨cs, B⟩ := sb h.ho g hg
  exact ⟨_, cs, .inr rfl, B⟩
theorem frs_set1 {w : World} {e : TypeId} {g cp n : Nat} {l : List Fr} (S : Slc w e 5 (.slice (some ⟨g, 0, none⟩) n cp) n (frc l)) (k j : Nat) (hj : j < 5) {f : Fr} (f' : Fr) (u : Value) (hf : l[k]? = some f) (hu : f'.cs = f.cs.set j u) :
  w.frozen? ⟨g, k * 5 + j, none⟩ = false ∧ Slc (w.setCell ⟨g, k * 5 + j, none⟩ u) e 5 (.slice (some ⟨g, 0, none⟩) n cp) n (frc (l.set k f')) ∧ Only [g] w (w.setCell ⟨g, k * 5 + j, none⟩ u) := by
 have hk : k < l.length := (List.getElem?_eq_some_iff.1 hf).1
 have hl := frc_length l
 have hl' := frc_length (l.set k f')
 rw [List.length_set] at hl'
 have hn := S.1
 rcases S.2 with ⟨h0, _⟩ | ⟨g', cap, rest, e1, B, hr, hm⟩
 ·cases h0
 ·injection e1 with e1 e2 e3
  injection e1 with e1
  injection e1 with e1 _ _
  subst e1 e3
  have B2 := B.set_ (k * 5 + j) u
  rw [List.setIfInBounds_toArray, List.set_append_left _ _ (by omega), frc_set l k j hj f f' u hf hu] at B2
  exact ⟨B.frozen _ (by simp; omega), ⟨by omega, .inr ⟨g, cp, rest, rfl, B2, by omega, hm⟩⟩, (Only.refl _ _).setCell (by simp) _⟩
theorem frs_put {w : World} {e : TypeId} {g cp n : Nat} {l : List Fr} (S : Slc w e 5 (.slice (some ⟨g, 0, none⟩) n cp) n (frc l)) (k : Nat) (hk : k < l.length) (f : Fr) :
  w.frozen? ⟨g, k * 5, none⟩ = false ∧ w.frozen? ⟨g, k * 5 + 1, none⟩ = false ∧ w.frozen? ⟨g, k * 5 + 2, none⟩ = false ∧ w.frozen? ⟨g, k * 5 + 3, none⟩ = false ∧ w.frozen? ⟨g, k * 5 + 4, none⟩ = false ∧
  Slc (((((w.setCell ⟨g, k * 5, none⟩ (.int .i64 f.page)).setCell ⟨g, k * 5 + 1, none⟩ (.string f.pay)).setCell ⟨g, k * 5 + 2, none⟩ (.int .i64 f.held)).setCell ⟨g, k * 5 + 3, none⟩ (.bool f.dirty)).setCell ⟨g, k * 5 + 4, none⟩ (.bool f.used)) e 5 (.slice (some ⟨g, 0, none⟩) n cp) n (frc (l.set k f)) ∧
  Only [g] w (((((w.setCell ⟨g, k * 5, none⟩ (.int .i64 f.page)).setCell ⟨g, k * 5 + 1, none⟩ (.string f.pay)).setCell ⟨g, k * 5 + 2, none⟩ (.int .i64 f.held)).setCell ⟨g, k * 5 + 3, none⟩ (.bool f.dirty)).setCell ⟨g, k * 5 + 4, none⟩ (.bool f.used)) := by
 have hf : l[k]? = some l[k] := List.getElem?_eq_getElem hk
 generalize l[k] = h at hf
 have gs : ∀ f', (l.set k f')[k]? = some f' := fun f' => by rw [List.getElem?_set_self hk]
 obtain ⟨z0, S0, o0⟩ := frs_set1 S k 0 (by omega) { h with page := f.page } (.int .i64 f.page) hf rfl
 rw [Nat.add_zero] at z0 S0 o0
 obtain ⟨_, S1, o1⟩ := frs_set1 S0 k 1 (by omega) { h with page := f.page, pay := f.pay } (.string f.pay) (gs _) rfl
 simp only [List.set_set] at S1
 obtain ⟨_, S2, o2⟩ := frs_set1 S1 k 2 (by omega) { h with page := f.page, pay := f.pay, held := f.held } (.int .i64 f.held) (gs _) rfl
 simp only [List.set_set] at S2
 obtain ⟨_, S3, o3⟩ := frs_set1 S2 k 3 (by omega) { h with page := f.page, pay := f.pay, held := f.held, dirty := f.dirty } (.bool f.dirty) (gs _) rfl
 simp only [List.set_set] at S3
 obtain ⟨_, S4, o4⟩ := frs_set1 S3 k 4 (by omega) f (.bool f.used) (gs _) rfl
 simp only [List.set_set] at S4
 have fz : ∀ j, j < 5 → w.frozen? ⟨g, k * 5 + j, none⟩ = false := fun j hj => (frs_set1 S k j hj h (h.cs.getD j default) hf (by
  rcases (by omega : j = 0 ∨ j = 1 ∨ j = 2 ∨ j = 3 ∨ j = 4) with rfl | rfl | rfl | rfl | rfl <;> rfl)).1
 exact ⟨fz 0 (by omega), fz 1 (by omega), fz 2 (by omega), fz 3 (by omega), fz 4 (by omega), S4, (((o0.trans o1).trans o2).trans o3).trans o4⟩
theorem info_frame15 : (Tryz.prog.info? 88).map (fun i => (i.zero, i.size, i.bytes)) = some (some (.agg #[.int .i64 0, .string ⟨#[]⟩, .int .i64 0, .bool false, .bool false]), 5, 40) := by kernel_rfl
theorem frc_one (l : List Fr) : ∀ u ∈ frc l, u.oneCell' = true := by
 intro u hu
 obtain ⟨f, _, hu⟩ := List.mem_flatMap.1 hu
 simp [Fr.cs] at hu
 rcases hu with rfl | rfl | rfl | rfl | rfl <;> rfl
set_option maxRecDepth 100000 in
set_option maxHeartbeats 4000000 in
theorem dset_any {w : World} {pq rs : Nat} {fv nv ov : Value} {q : QS} (h : RPAt w pq rs fv nv ov q) (k : Nat) (hk : k < q.l.length) (f : Fr) :
  Calls Tryz.prog 170 #[rp pq, .int .i64 (k : Nat), f.agg] w fun e w' => e = .returned (.tuple #[]) ∧ ∃ fv', RPAt w' pq rs fv' nv ov { q with l := q.l.set k f } ∧ Only [pq] w w' := by
 obtain ⟨g0, cp0, rfl⟩ := h.fs
 have l2 := h.l2
 have hpl := h.hp.lt
 have O1 := belowAlloc (Below.refl w.heap.size w) (.cells #[.int .i64 f.page, .string f.pay, .int .i64 f.held, .bool f.dirty, .bool f.used] 88)
 have O0 := belowAlloc O1 (.cells #[] 88)
 have X0 := (Blk.new w 88 #[.int .i64 f.page, .string f.pay, .int .i64 f.held, .bool f.dirty, .bool f.used]).alloc (.cells #[] 88)
 have E0 : Slc ((w.alloc (.cells #[.int .i64 f.page, .string f.pay, .int .i64 f.held, .bool f.dirty, .bool f.used] 88)).alloc (.cells #[] 88)) 88 5 (.slice (some ⟨w.heap.size + 1, 0, none⟩) 0 0) 0 [] :=
  ⟨rfl, .inr ⟨w.heap.size + 1, 0, [], rfl, by have := Blk.new (w.alloc (.cells #[.int .i64 f.page, .string f.pay, .int .i64 f.held, .bool f.dirty, .bool f.used] 88)) 88 #[]; simpa using this, rfl, by unfold maxLen; omega⟩⟩
 have hz := h.below O0
 have P1 := (h.below O0).p1
 obtain ⟨v1, w1, ea, S1, o1, f1⟩ := append_slcs (P := Tryz.prog) E0 hz.hf 84 84 _ 40 Tryz.underlying84 info_frame15 rfl (by omega) (frc_one q.l) (by unfold maxLen; omega) (by omega)
 rw [Nat.zero_add, List.nil_append] at S1
 obtain ⟨g1, cp1, _, rfl, _⟩ := S1.form (by have := h.l1; omega) (by omega)
 have hg1 : w.heap.size < g1 := (f1 g1 (by simp [ownB])).elim (fun h => by simp [ownB] at h; omega) (fun h => by simp at h; omega)
 have A1 := hz.only o1 (fun g hg hm => by
  simp [ownB] at hm
  subst hm
  have hlt : ∀ g ∈ pq :: rs :: (ownB (.slice (some ⟨g0, 0, none⟩) q.l.length cp0) ++ (ownB nv ++ ownB ov)), g < w.heap.size := fun g hg => by
   simp only [List.mem_cons, List.mem_append] at hg
   rcases hg with rfl | rfl | hg | hg
   ·exact h.hp.lt
   ·exact h.hs.hb.lt
   ·exact h.hf.lt g hg
   ·exact h.hs.lt g (by simp; rcases hg with h | h <;> simp [h])
  have := hlt _ hg
  omega)
 obtain ⟨z0, z1, z2, z3, z4, S2, o2⟩ := frs_put S1 k hk f
 have x0 := X0.only o1 (by simp [ownB])
 have y0 := x0.cell_some (i := 0) rfl
 have y1 := x0.cell_some (i := 1) rfl
 have y2 := x0.cell_some (i := 2) rfl
 have y3 := x0.cell_some (i := 3) rfl
 have y4 := x0.cell_some (i := 4) rfl
 have ho := Lib.hid (Only.of_below (S := [pq]) (O0.trans (o1.below_of (by simp; omega) (fun x hx => by simp [ownB] at hx; omega))))
 have hne : pq ≠ g1 := by omega
 have A2 := A1.only o2 (fun g hg hm => by
  simp at hm
  subst hm
  have hlt : ∀ g ∈ pq :: rs :: (ownB (.slice (some ⟨g0, 0, none⟩) q.l.length cp0) ++ (ownB nv ++ ownB ov)), g < w.heap.size := fun g hg => by
   simp only [List.mem_cons, List.mem_append] at hg
   rcases hg with rfl | rfl | hg | hg
   ·exact h.hp.lt
   ·exact h.hs.hb.lt
   ·exact h.hf.lt g hg
   ·exact h.hs.lt g (by simp; rcases hg with h | h <;> simp [h])
  have := hlt _ hg
  omega)
 obtain ⟨u0, u1, u2, u3, u4, k0, k1, k2, k3, k4⟩ : ∃ a b c d e, w1.cell? ⟨g1, k * 5, none⟩ = some a ∧ w1.cell? ⟨g1, k * 5 + 1, none⟩ = some b ∧ w1.cell? ⟨g1, k * 5 + 2, none⟩ = some c ∧ w1.cell? ⟨g1, k * 5 + 3, none⟩ = some d ∧ w1.cell? ⟨g1, k * 5 + 4, none⟩ = some e := by
  obtain ⟨g', cp', rest, e, B, _⟩ := S1.form (by have := h.l1; omega) (by omega)
  injection e with e
  injection e with e
  injection e with e
  subst e
  obtain ⟨a, b, c, d, e⟩ := FrsAt.of B k _ (List.getElem?_eq_getElem hk)
  exact ⟨_, _, _, _, _, a, b, c, d, e⟩
 have c5 := A2.p1
 have z5 := A2.hp.frozen 1 (by simp)
 have hkI : (k : Int) < (q.l.length : Int) := by omega
 have hFIN := A2.hp.set_ 1 (.slice (some ⟨g1, 0, none⟩) q.l.length cp1)
 obtain ⟨W2, hW2⟩ : ∃ W2, (((((w1.setCell ⟨g1, k * 5, none⟩ (.int .i64 f.page)).setCell ⟨g1, k * 5 + 1, none⟩ (.string f.pay)).setCell ⟨g1, k * 5 + 2, none⟩ (.int .i64 f.held)).setCell ⟨g1, k * 5 + 3, none⟩ (.bool f.dirty)).setCell ⟨g1, k * 5 + 4, none⟩ (.bool f.used)) = W2 := ⟨_, rfl⟩
 have HFIN := Lib.hid (show RPAt (W2.setCell ⟨pq, 1, none⟩ (.slice (some ⟨g1, 0, none⟩) q.l.length cp1)) pq rs (.slice (some ⟨g1, 0, none⟩) q.l.length cp1) nv ov { q with l := q.l.set k f } ∧ Only [pq] w (W2.setCell ⟨pq, 1, none⟩ (.slice (some ⟨g1, 0, none⟩) q.l.length cp1)) from by
  rw [hW2] at hFIN S2 o2 A2
  have o3 : Only [pq] W2 (W2.setCell ⟨pq, 1, none⟩ (.slice (some ⟨g1, 0, none⟩) q.l.length cp1)) := (Only.refl _ _).setCell (by simp) _
  refine ⟨⟨by simpa using hFIN, ?_, A2.hs.only o3 (fun g hg hm => ?_), by show 1 ≤ (q.l.set k f).length; rw [List.length_set]; exact h.l1, by show (q.l.set k f).length ≤ 32; rw [List.length_set]; exact l2, by show q.hand < (q.l.set k f).length; rw [List.length_set]; exact h.lh⟩, ?_⟩
  ·show Slc _ _ 5 _ (q.l.set k f).length (frc (q.l.set k f))
   rw [List.length_set]
   exact S2.only o3 (fun g hg hm => by simp [ownB] at hg hm; omega)
  ·obtain ⟨t, cs, ht, B⟩ := A2.hs.blk' g hg
   simp at hm
   subst hm
   rcases ht with rfl | rfl
   ·exact A2.hp.ne_ B (by decide) rfl
   ·exact A2.hp.ne_ B (by decide) rfl
  ·refine Only.trans ?_ o3
   exact (ho.out.trans_of o2 (fun g hg hlt => by simp at hg; subst hg; omega)))
 have EA := Lib.hid ea
 rw [hW2] at c5 z5
 have HW2 := Lib.hid hW2
 clear ea S1 o1 f1 A1 A2 S2 o2 hFIN hz E0 X0 x0 O0 O1 h hpl l2 hk hW2
 unfold Fr.agg rp at *
 go_enter Tryz.func170, Tryz.ntmps170
 go_wp2_with fail
 rw [EA.out]
 have hW2 := HW2.out
 go_wp2_with fail
 go_end0
 exact ⟨rfl, _, HFIN.out⟩
end Go.Proofs.YtbelcgjbhpjnpaaGreat.Sh
