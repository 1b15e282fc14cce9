/- shadow by its contracts: the object; pages, works, at. -/
import Derived.Test.YtbelcgjbhpjnpaaGreatGb
import Derived.Test.YtbelcgjbhpjnpaaGreatFa
import Derived.Test.YtbelcgjbhpjnpaaGreatRa
import Derived.Test.YtbelcgjbhpjnpaaGreatKa
namespace Go.Proofs.YtbelcgjbhpjnpaaGreat.Sh
open Go.RowKit Pk Dk Pg
attribute [local go_sem ↓] Go.wp_at_zero Go.wp_at_succ
/-- a store's content -/
structure C where
  d : D
  m : List Int
  table : List Int
  old : List Int
  parts : List Int
  ep : Int
  slot : Int
  broken : Bool
/-- where a store lies -/
structure X where
  b : Nat
  L : Dk.Loc
  mb : Nat
  mg : Nat
  tv : Value
  ov : Value
  pv : Value
def X.fp (x : X) : List Nat := x.b :: x.mb :: x.mg :: (x.L.fp ++ ownS x.tv ++ ownS x.ov ++ ownS x.pv)
def X.same (x : X) (y : X) : Prop := y.b = x.b ∧ y.L = x.L ∧ y.mb = x.mb ∧ y.mg = x.mg
def nvs' (l : List Int) : List Value := l.map (Value.int .i64)
@[simp] theorem nvs'_length (l : List Int) : (nvs' l).length = l.length := by simp [nvs']
theorem nvs'_get (l : List Int) (k : Nat) (h : k < l.length) : (nvs' l)[k]? = some (.int .i64 (l.getD k 0)) := by simp [nvs', List.getElem?_eq_getElem h]
theorem nvs'_one (l : List Int) : ∀ u ∈ nvs' l, u.oneCell' = true := by
  intro u hu
  obtain ⟨x, _, rfl⟩ := List.mem_map.1 hu
  rfl
theorem nvs'_set (l : List Int) (k : Nat) (x : Int) : (nvs' l).set k (.int .i64 x) = nvs' (l.set k x) := by simp [nvs', List.map_set]
theorem nvs'_append (l m : List Int) : nvs' (l ++ m) = nvs' l ++ nvs' m := by simp [nvs']
def fieldsS (x : X) (c : C) : Array Value := #[dp x.L.b, Fm.mp x.mb, x.tv, x.ov, x.pv, .int .i64 c.ep, .int .i64 c.slot, .bool c.broken]
structure At (w : World) (x : X) (n : Nat) (c : C) : Prop where
  hb : Blk w x.b 115 (fieldsS x c)
  hd : DiskAt w x.L n c.d
  hm : Fm.MapAt w x.mb x.mg c.m
  ht : Sl w 3 x.tv c.table.length (nvs' c.table)
  ho : Sl w 3 x.ov c.old.length (nvs' c.old)
  hp : Sl w 3 x.pv c.parts.length (nvs' c.parts)
  n1 : x.mg ∉ ownS x.tv
  n2 : x.mg ∉ ownS x.ov
  n3 : x.mg ∉ ownS x.pv
  n4 : ∀ g ∈ ownS x.tv, g ∉ ownS x.ov
  n5 : ∀ g ∈ ownS x.tv, g ∉ ownS x.pv
  n6 : ∀ g ∈ ownS x.ov, g ∉ ownS x.pv
  tl : c.table.length ≤ 512
section
variable {w w' : World} {x : X} {n : Nat} {c : C} {S : List Nat}
theorem At.only (h : At w x n c) (ho : Only S w w') (hd : ∀ g ∈ x.fp, g ∉ S) : At w' x n c :=
  ⟨h.hb.only ho (hd _ (by simp [X.fp])), h.hd.only ho (fun g hg => hd g (by simp [X.fp, hg])), h.hm.only ho (hd _ (by simp [X.fp])) (hd _ (by simp [X.fp])),
    h.ht.only ho (fun g hg => hd g (by simp [X.fp, hg])), h.ho.only ho (fun g hg => hd g (by simp [X.fp, hg])), h.hp.only ho (fun g hg => hd g (by simp [X.fp, hg])), h.n1, h.n2, h.n3, h.n4, h.n5, h.n6, h.tl⟩
theorem At.below (h : At w x n c) (hb : Below w.heap.size w w') : At w' x n c := h.only (S := []) (.of_below hb) (by simp)
theorem At.drew (h : At w x n c) : At w.drew x n c := h.below ((Below.refl _ _).drew)
theorem At.drewN (h : At w x n c) (k : Nat) : At (w.drewN k) x n c := h.below (Below_drewN (Below.refl _ _) k)
theorem At.lt (h : At w x n c) : ∀ g ∈ x.fp, g < w.heap.size := by
  intro g hg
  simp only [X.fp, List.mem_cons, List.mem_append] at hg
  rcases hg with rfl | rfl | rfl | ((hg | hg) | hg) | hg
  · exact h.hb.lt
  · exact h.hm.hb.lt
  · exact h.hm.hg.lt
  · exact h.hd.lt g hg
  · exact h.ht.lt g hg
  · exact h.ho.lt g hg
  · exact h.hp.lt g hg
theorem At.f0 (h : At w x n c) : w.cell? ⟨x.b, 0, none⟩ = some (dp x.L.b) := h.hb.cell_some rfl
theorem At.f1 (h : At w x n c) : w.cell? ⟨x.b, 1, none⟩ = some (Fm.mp x.mb) := h.hb.cell_some rfl
theorem At.f2 (h : At w x n c) : w.cell? ⟨x.b, 2, none⟩ = some x.tv := h.hb.cell_some rfl
theorem At.f3 (h : At w x n c) : w.cell? ⟨x.b, 3, none⟩ = some x.ov := h.hb.cell_some rfl
theorem At.f4 (h : At w x n c) : w.cell? ⟨x.b, 4, none⟩ = some x.pv := h.hb.cell_some rfl
theorem At.f5 (h : At w x n c) : w.cell? ⟨x.b, 5, none⟩ = some (.int .i64 c.ep) := h.hb.cell_some rfl
theorem At.f6 (h : At w x n c) : w.cell? ⟨x.b, 6, none⟩ = some (.int .i64 c.slot) := h.hb.cell_some rfl
theorem At.f7 (h : At w x n c) : w.cell? ⟨x.b, 7, none⟩ = some (.bool c.broken) := h.hb.cell_some rfl
theorem At.fz (h : At w x n c) (i : Nat) (hi : i < 8) : w.frozen? ⟨x.b, i, none⟩ = false := h.hb.frozen i (by simpa [fieldsS] using hi)
/-- a page's number in the table -/
theorem At.tk (h : At w x n c) (k : Nat) (hk : k < c.table.length) : ∃ g cp, x.tv = .slice (some ⟨g, 0, none⟩) c.table.length cp ∧ w.cell? ⟨g, k, none⟩ = some (.int .i64 (c.table.getD k 0)) := by
  obtain ⟨g, cp, rest, hv, B, _, _⟩ := h.ht.form (by omega)
  refine ⟨g, cp, hv, B.cell_some ?_⟩
  rw [List.getElem?_toArray, List.getElem?_append_left (by simpa using hk), nvs'_get _ _ hk]
/-- the disk changed alone -/
theorem At.disk (h : At w x n c) {d' : D} (hd : DiskAt w' x.L n d') (ho : Only x.L.fp w w') : At w' x n { c with d := d' } := by
  have ne : ∀ g ∈ x.L.fp, ∀ {t : TypeId} {cs : Array Value} {b : Nat}, Blk w b t cs → t ≠ 111 → t ≠ 140 → t ≠ 4 → b ∉ x.L.fp := by
    intro g hg t cs b B h1 h2 h3 hm
    simp only [Loc.fp, List.mem_cons, List.not_mem_nil, or_false] at hm
    rcases hm with rfl | rfl | rfl | rfl
    · exact h1 (B.inj h.hd.hb).1
    · exact h2 (B.inj h.hd.hN).1
    · exact h2 (B.inj h.hd.hO).1
    · exact h3 (B.inj h.hd.hL).1
  have nb : ∀ {t : TypeId} {cs : Array Value} {b : Nat}, Blk w b t cs → t ≠ 111 → t ≠ 140 → t ≠ 4 → b ∉ x.L.fp := fun B h1 h2 h3 => ne x.L.b (by simp [Loc.fp]) B h1 h2 h3
  have ns : ∀ {v : Value} {k : Nat} {l : List Value}, Sl w 3 v k l → ∀ g ∈ ownS v, g ∉ x.L.fp := by
    intro v k l S g hg
    rcases S.2 with ⟨A, rfl, _⟩ | ⟨g', cap, rest, rfl, h0, B, _⟩
    · cases A <;> simp [ownS] at hg
    · simp [ownS] at hg
      rw [hg.2]
      exact nb B (by decide) (by decide) (by decide)
  exact ⟨h.hb.only ho (nb h.hb (by decide) (by decide) (by decide)), hd, h.hm.only ho (nb h.hm.hb (by decide) (by decide) (by decide)) (nb h.hm.hg (by decide) (by decide) (by decide)), h.ht.only ho (ns h.ht), h.ho.only ho (ns h.ho), h.hp.only ho (ns h.hp), h.n1, h.n2, h.n3, h.n4, h.n5, h.n6, h.tl⟩
/-- the map changed alone -/
theorem At.map (h : At w x n c) {m' : List Int} (hm : Fm.MapAt w' x.mb x.mg m') (ho : Only [x.mg] w w') : At w' x n { c with m := m' } := by
  have nb : ∀ {t : TypeId} {cs : Array Value} {b : Nat}, Blk w b t cs → t ≠ 3 → b ∉ [x.mg] := by
    intro t cs b B h1 hm
    simp at hm
    subst hm
    exact h1 (B.inj h.hm.hg).1
  refine ⟨h.hb.only ho (nb h.hb (by decide)), h.hd.only ho ?_, hm, h.ht.only ho ?_, h.ho.only ho ?_, h.hp.only ho ?_, h.n1, h.n2, h.n3, h.n4, h.n5, h.n6, h.tl⟩
  · intro g hg
    simp only [Loc.fp, List.mem_cons, List.not_mem_nil, or_false] at hg
    rcases hg with rfl | rfl | rfl | rfl
    · exact nb h.hd.hb (by decide)
    · exact nb h.hd.hN (by decide)
    · exact nb h.hd.hO (by decide)
    · exact nb h.hd.hL (by decide)
  · intro g hg hm; simp at hm; subst hm; exact h.n1 hg
  · intro g hg hm; simp at hm; subst hm; exact h.n2 hg
  · intro g hg hm; simp at hm; subst hm; exact h.n3 hg
end
def sp (b : Nat) : Value := .pointer (some ⟨b, 0, none⟩)
def pagesF (n : Nat) : Nat := min (manyF n) 1024
def C.worksF (c : C) : Int := if c.broken then 13 else 0
def C.hasF (c : C) (l : Int) : Bool := decide (0 ≤ l) && decide (l < c.table.length) && decide (0 ≤ c.table.getD l.toNat 0)
def C.atF (c : C) (l : Int) : Int := if c.broken then 13 else if c.hasF l then 0 else 3
set_option maxHeartbeats 1000000 in
theorem pages_any {w : World} {L : Dk.Loc} {n : Nat} {d : D} (h : DiskAt w L n d) :
    Calls Tryz.prog 94 #[dp L.b] w fun e w' => e = .returned (.int .i64 (pagesF n : Nat)) ∧ w = w' := by
  have K := Lib.hid (many_any h)
  have hm : ((manyF n : Nat) : Int) ≤ 1024 := by have := h.ok.small; unfold manyF; omega
  have HP := Lib.hid (show ((pagesF n : Nat) : Int) = ((manyF n : Nat) : Int) from by unfold pagesF; omega)
  generalize manyF n = mn at *
  unfold dp at *
  go_enter Tryz.func94, Tryz.ntmps94
  go_wp2_with fail
  refine K.out.mono ?_
  rintro e w1 ⟨rfl, rfl⟩
  go_wp2_with fail
  all_goals
    go_ret
    refine ⟨?_, rfl⟩
    rw [HP.out]
    first | (simp; done) | (simp; omega)
set_option maxHeartbeats 1000000 in
theorem works_any {w : World} {x : X} {n : Nat} {c : C} (h : At w x n c) :
    Calls Tryz.prog 86 #[sp x.b] w fun e w' => e = .returned (.int .i64 c.worksF) ∧ w = w' := by
  have f7 := h.f7
  unfold sp C.worksF
  clear h
  cases hb : c.broken
  all_goals
    rw [hb] at f7
    clear hb
    go_enter Tryz.func86, Tryz.ntmps86
    go_wp2_with fail
    go_ret
    exact ⟨by first | rfl | simp, rfl⟩
set_option maxHeartbeats 1000000 in
theorem works_nil (w : World) :
    Calls Tryz.prog 86 #[.pointer none] w fun e w' => e = .returned (.int .i64 1) ∧ w = w' := by
  go_enter Tryz.func86, Tryz.ntmps86
  go_wp2_with fail
  go_ret
  exact ⟨by first | rfl | simp, rfl⟩
end Go.Proofs.YtbelcgjbhpjnpaaGreat.Sh
