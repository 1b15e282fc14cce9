/- shadow by its contracts: the object; pages, works, at. -/
import Derived.Test.YtbelcgjbhpjnpaaGreatGb
import Derived.Test.YtbelcgjbhpjnpaaGreatFa
import Derived.Test.YtbelcgjbhpjnpaaGreatRa
import Derived.Test.YtbelcgjbhpjnpaaGreatKa
import Derived.Deep.RegionHeld3
set_option linter.all false
set_option linter.unusedVariables false
set_option linter.unusedSimpArgs false
set_option maxRecDepth 100000
namespace Go.Proofs.YtbelcgjbhpjnpaaGreat.Sh
open Go.RowKit Pk Dk Pg
attribute [local go_sem ↓] Go.wp_at_zero Go.wp_at_succ
/-- a store's content -/
structure C where
 d : D
 m : List Int
 table : List Int
 old : List Int
 parts : List Int
 ep : Int
 slot : Int
 broken : Bool
/-- where a store lies -/
structure X where
 b : Nat
 L : Dk.Loc
 mb : Nat
 mg : Nat
 tv : Value
 ov : Value
 pv : Value
def X.fp (x : X) : List Nat := x.b :: x.mb :: x.mg :: (x.L.fp ++ ownS x.tv ++ ownS x.ov ++ ownS x.pv)
def X.same (x : X) (y : X) : Prop := y.b = x.b ∧ y.L = x.L ∧ y.mb = x.mb ∧ y.mg = x.mg
def nvs' (l : List Int) : List Value := l.map (Value.int .i64)
@[simp] theorem nvs'_length (l : List Int) : (nvs' l).length = l.length := by simp [nvs']
theorem nvs'_get (l : List Int) (k : Nat) (h : k < l.length) : (nvs' l)[k]? = some (.int .i64 (l.getD k 0)) := by simp [nvs', List.getElem?_eq_getElem h]
theorem nvs'_one (l : List Int) : ∀ u ∈ nvs' l, u.oneCell' = true := by
 intro u hu
 obtain ⟨x, _, rfl⟩ := List.mem_map.1 hu
 rfl
theorem nvs'_set (l : List Int) (k : Nat) (x : Int) : (nvs' l).set k (.int .i64 x) = nvs' (l.set k x) := by simp [nvs', List.map_set]
theorem nvs'_append (l m : List Int) : nvs' (l ++ m) = nvs' l ++ nvs' m := by simp [nvs']
def fieldsS (x : X) (c : C) : Array Value := #[dp x.L.b, Fm.mp x.mb, x.tv, x.ov, x.pv, .int .i64 c.ep, .int .i64 c.slot, .bool c.broken]
/-- a slice of numbers that is read alone: its own, or cut out of an array -/
def Pl (w : World) (v : Value) (n : Nat) (l : List Value) : Prop := Sl w 3 v n l ∨ (l.length = n ∧ ∃ g cap rest, v = .slice (some ⟨g, 0, none⟩) n cap ∧ n ≤ cap ∧ 0 < cap ∧ Blk w g 185 (l ++ rest).toArray)
section
variable {w w' : World} {v : Value} {n : Nat} {l : List Value} {S : List Nat}
theorem Pl.only (h : Pl w v n l) (ho : Only S w w') (hd : ∀ g ∈ ownS v, g ∉ S) : Pl w' v n l := by
 rcases h with h | ⟨hl, g, cap, rest, rfl, h1, h2, B⟩
 ·exact .inl (h.only ho hd)
 ·exact .inr ⟨hl, g, cap, rest, rfl, h1, h2, B.only ho (hd g (by simp [ownS]; omega))⟩
theorem Pl.below (h : Pl w v n l) (hb : Below w.heap.size w w') : Pl w' v n l := h.only (S := []) (.of_below hb) (by simp)
theorem Pl.own (h : Pl w v n l) : ∀ g ∈ ownS v, ∃ t cs, (t = 3 ∨ t = 185) ∧ Blk w g t cs := by
 intro g hg
 rcases h with S | ⟨hl, g', cap, rest, rfl, h1, h2, B⟩
 ·rcases S.2 with ⟨A, rfl, _⟩ | ⟨g', cap, rest, rfl, h0, B, _⟩
  ·cases A <;> simp [ownS] at hg
  ·simp [ownS] at hg
   rw [hg.2]
   exact ⟨_, _, .inl rfl, B⟩
 ·simp [ownS] at hg
  rw [hg.2]
  exact ⟨_, _, .inr rfl, B⟩
theorem Pl.lt (h : Pl w v n l) : ∀ g ∈ ownS v, g < w.heap.size := fun g hg => by
 obtain ⟨t, cs, _, B⟩ := h.own g hg
 exact B.lt
theorem Pl.val (h : Pl w v n l) : ∃ A c, v = .slice A n c ∧ n ≤ c := by
 rcases h with h | ⟨hl, g, cap, rest, rfl, h1, h2, B⟩
 ·exact h.val
 ·exact ⟨_, cap, rfl, h1⟩
theorem Pl.form (h : Pl w v n l) (hn : 0 < n) : ∃ g cap rest, v = .slice (some ⟨g, 0, none⟩) n cap ∧ (∃ t, Blk w g t (l ++ rest).toArray) ∧ n ≤ cap ∧ l.length = n := by
 rcases h with h | ⟨hl, g, cap, rest, rfl, h1, h2, B⟩
 ·obtain ⟨g, cap, rest, h1, h2, h3, h4⟩ := h.form hn
  exact ⟨g, cap, rest, h1, ⟨_, h2⟩, h3, h.1⟩
 ·exact ⟨g, cap, rest, rfl, ⟨_, B⟩, h1, hl⟩
/-- a block of another type is not its own -/
theorem Pl.far (h : Pl w v n l) {b : Nat} {t : TypeId} {cs : Array Value} (B : Blk w b t cs) (h1 : t ≠ 3) (h2 : t ≠ 185) : b ∉ ownS v := fun hb => by
 obtain ⟨t', cs', ht, B'⟩ := h.own b hb
 rcases ht with rfl | rfl
 ·exact B.ne_ B' h1 rfl
 ·exact B.ne_ B' h2 rfl
end
structure At (w : World) (x : X) (n : Nat) (c : C) : Prop where
 hb : Blk w x.b 115 (fieldsS x c)
 hd : DiskAt w x.L n c.d
 hm : Fm.MapAt w x.mb x.mg c.m
 ht : Sl w 3 x.tv c.table.length (nvs' c.table)
 ho : Sl w 3 x.ov c.old.length (nvs' c.old)
 hp : Pl w x.pv c.parts.length (nvs' c.parts)
 n1 : x.mg ∉ ownS x.tv
 n2 : x.mg ∉ ownS x.ov
 n3 : x.mg ∉ ownS x.pv
 n4 : ∀ g ∈ ownS x.tv, g ∉ ownS x.ov
 n5 : ∀ g ∈ ownS x.tv, g ∉ ownS x.pv
 n6 : ∀ g ∈ ownS x.ov, g ∉ ownS x.pv
 tl : c.table.length ≤ 512
section
variable {w w' : World} {x : X} {n : Nat} {c : C} {S : List Nat}
theorem At.only (h : At w x n c) (ho : Only S w w') (hd : ∀ g ∈ x.fp, g ∉ S) : At w' x n c :=
 ⟨h.hb.only ho (hd _ (by simp [X.fp])), h.hd.only ho (fun g hg => hd g (by simp [X.fp, hg])), h.hm.only ho (hd _ (by simp [X.fp])) (hd _ (by simp [X.fp])),
  h.ht.only ho (fun g hg => hd g (by simp [X.fp, hg])), h.ho.only ho (fun g hg => hd g (by simp [X.fp, hg])), h.hp.only ho (fun g hg => hd g (by simp [X.fp, hg])), h.n1, h.n2, h.n3, h.n4, h.n5, h.n6, h.tl⟩
theorem At.below (h : At w x n c) (hb : Below w.heap.size w w') : At w' x n c := h.only (S := []) (.of_below hb) (by simp)
theorem At.drew (h : At w x n c) : At w.drew x n c := h.below ((Below.refl _ _).drew)
theorem At.drewN (h : At w x n c) (k : Nat) : At (w.drewN k) x n c := h.below (Below_drewN (Below.refl _ _) k)
theorem At.lt (h : At w x n c) : ∀ g ∈ x.fp, g < w.heap.size := by
 intro g hg
 simp only [X.fp, List.mem_cons, List.mem_append] at hg
 rcases hg with rfl | rfl | rfl | ((hg | hg) | hg) | hg
 ·exact h.hb.lt
 ·exact h.hm.hb.lt
 ·exact h.hm.hg.lt
 ·exact h.hd.lt g hg
 ·exact h.ht.lt g hg
 ·exact h.ho.lt g hg
 ·exact h.hp.lt g hg
theorem At.f0 (h : At w x n c) : w.cell? ⟨x.b, 0, none⟩ = some (dp x.L.b) := h.hb.cell_some rfl
theorem At.f1 (h : At w x n c) : w.cell? ⟨x.b, 1, none⟩ = some (Fm.mp x.mb) := h.hb.cell_some rfl
theorem At.f2 (h : At w x n c) : w.cell? ⟨x.b, 2, none⟩ = some x.tv := h.hb.cell_some rfl
theorem At.f3 (h : At w x n c) : w.cell? ⟨x.b, 3, none⟩ = some x.ov := h.hb.cell_some rfl
theorem At.f4 (h : At w x n c) : w.cell? ⟨x.b, 4, none⟩ = some x.pv := h.hb.cell_some rfl
theorem At.f5 (h : At w x n c) : w.cell? ⟨x.b, 5, none⟩ = some (.int .i64 c.ep) := h.hb.cell_some rfl
theorem At.f6 (h : At w x n c) : w.cell? ⟨x.b, 6, none⟩ = some (.int .i64 c.slot) := h.hb.cell_some rfl
theorem At.f7 (h : At w x n c) : w.cell? ⟨x.b, 7, none⟩ = some (.bool c.broken) := h.hb.cell_some rfl
theorem At.fz (h : At w x n c) (i : Nat) (hi : i < 8) : w.frozen? ⟨x.b, i, none⟩ = false := h.hb.frozen i (by simpa [fieldsS] using hi)
/-- a page's number in the table -/
theorem At.tk (h : At w x n c) (k : Nat) (hk : k < c.table.length) : ∃ g cp, x.tv = .slice (some ⟨g, 0, none⟩) c.table.length cp ∧ w.cell? ⟨g, k, none⟩ = some (.int .i64 (c.table.getD k 0)) := by
 obtain ⟨g, cp, rest, hv, B, _, _⟩ := h.ht.form (by omega)
 refine ⟨g, cp, hv, B.cell_some ?_⟩
 rw [List.getElem?_toArray, List.getElem?_append_left (by simpa using hk), nvs'_get _ _ hk]
/-- the disk changed alone -/
theorem At.disk (h : At w x n c) {d' : D} (hd : DiskAt w' x.L n d') (ho : Only x.L.fp w w') : At w' x n { c with d := d' } := by
 have ne : ∀ g ∈ x.L.fp, ∀ {t : TypeId} {cs : Array Value} {b : Nat}, Blk w b t cs → t ≠ 111 → t ≠ 140 → t ≠ 4 → b ∉ x.L.fp := by
  intro g hg t cs b B h1 h2 h3 hm
  simp only [Loc.fp, List.mem_cons, List.not_mem_nil, or_false] at hm
  rcases hm with rfl | rfl | rfl | rfl
  ·exact h1 (B.inj h.hd.hb).1
  ·exact h2 (B.inj h.hd.hN).1
  ·exact h2 (B.inj h.hd.hO).1
  ·exact h3 (B.inj h.hd.hL).1
 have nb : ∀ {t : TypeId} {cs : Array Value} {b : Nat}, Blk w b t cs → t ≠ 111 → t ≠ 140 → t ≠ 4 → b ∉ x.L.fp := fun B h1 h2 h3 => ne x.L.b (by simp [Loc.fp]) B h1 h2 h3
 have ns : ∀ {v : Value} {k : Nat} {l : List Value}, Sl w 3 v k l → ∀ g ∈ ownS v, g ∉ x.L.fp := by
  intro v k l S g hg
  rcases S.2 with ⟨A, rfl, _⟩ | ⟨g', cap, rest, rfl, h0, B, _⟩
  ·cases A <;> simp [ownS] at hg
  ·simp [ownS] at hg
   rw [hg.2]
   exact nb B (by decide) (by decide) (by decide)
 have np : ∀ g ∈ ownS x.pv, g ∉ x.L.fp := fun g hg => by
  obtain ⟨t, cs, ht, B⟩ := h.hp.own g hg
  rcases ht with rfl | rfl
  ·exact nb B (by decide) (by decide) (by decide)
  ·exact nb B (by decide) (by decide) (by decide)
 exact ⟨h.hb.only ho (nb h.hb (by decide) (by decide) (by decide)), hd, h.hm.only ho (nb h.hm.hb (by decide) (by decide) (by decide)) (nb h.hm.hg (by decide) (by decide) (by decide)), h.ht.only ho (ns h.ht), h.ho.only ho (ns h.ho), h.hp.only ho np, h.n1, h.n2, h.n3, h.n4, h.n5, h.n6, h.tl⟩
/-- the map changed alone -/
theorem At.map (h : At w x n c) {m' : List Int} (hm : Fm.MapAt w' x.mb x.mg m') (ho : Only [x.mg] w w') : At w' x n { c with m := m' } := by
 have nb : ∀ {t : TypeId} {cs : Array Value} {b : Nat}, Blk w b t cs → t ≠ 3 → b ∉ [x.mg] := by
  intro t cs b B h1 hm
  simp at hm
  subst hm
  exact h1 (B.inj h.hm.hg).1
 refine ⟨h.hb.only ho (nb h.hb (by decide)), h.hd.only ho ?_, hm, h.ht.only ho ?_, h.ho.only ho ?_, h.hp.only ho ?_, h.n1, h.n2, h.n3, h.n4, h.n5, h.n6, h.tl⟩
 ·intro g hg
  simp only [Loc.fp, List.mem_cons, List.not_mem_nil, or_false] at hg
  rcases hg with rfl | rfl | rfl | rfl
  ·exact nb h.hd.hb (by decide)
  ·exact nb h.hd.hN (by decide)
  ·exact nb h.hd.hO (by decide)
  ·exact nb h.hd.hL (by decide)
 ·intro g hg hm; simp at hm; subst hm; exact h.n1 hg
 ·intro g hg hm; simp at hm; subst hm; exact h.n2 hg
 ·intro g hg hm; simp at hm; subst hm; exact h.n3 hg
end
def sp (b : Nat) : Value := .pointer (some ⟨b, 0, none⟩)
def pagesF (n : Nat) : Nat := min (manyF n) 1024
def C.worksF (c : C) : Int := if c.broken then 13 else 0
def C.hasF (c : C) (l : Int) : Bool := decide (0 ≤ l) && decide (l < c.table.length) && decide (0 ≤ c.table.getD l.toNat 0)
def C.atF (c : C) (l : Int) : Int := if c.broken then 13 else if c.hasF l then 0 else 3
set_option maxHeartbeats 1000000 in
theorem pages_any {w : World} {L : Dk.Loc} {n : Nat} {d : D} (h : DiskAt w L n d) :
  Calls Tryz.prog 94 #[dp L.b] w fun e w' => e = .returned (.int .i64 (pagesF n : Nat)) ∧ w = w' := by
 have K := Lib.hid (many_any h)
 have hm : ((manyF n : Nat) : Int) ≤ 1024 := by have := h.ok.small; unfold manyF; omega
 have HP := Lib.hid (show ((pagesF n : Nat) : Int) = ((manyF n : Nat) : Int) from by unfold pagesF; omega)
 generalize manyF n = mn at *
 unfold dp at *
 go_enter Tryz.func94, Tryz.ntmps94
 go_wp2_with fail
 refine K.out.mono ?_
 rintro e w1 ⟨rfl, rfl⟩
 go_wp2_with fail
 all_goals
  go_ret
  refine ⟨?_, rfl⟩
  rw [HP.out]
  first | (simp; done) | (simp; omega)
set_option maxHeartbeats 1000000 in
theorem works_any {w : World} {x : X} {n : Nat} {c : C} (h : At w x n c) :
  Calls Tryz.prog 86 #[sp x.b] w fun e w' => e = .returned (.int .i64 c.worksF) ∧ w = w' := by
 have f7 := h.f7
 unfold sp C.worksF
 clear h
 cases hb : c.broken
 all_goals
  rw [hb] at f7
  clear hb
  go_enter Tryz.func86, Tryz.ntmps86
  go_wp2_with fail
  go_ret
  exact ⟨by first | rfl | simp, rfl⟩
set_option maxHeartbeats 1000000 in
theorem works_nil (w : World) :
  Calls Tryz.prog 86 #[.pointer none] w fun e w' => e = .returned (.int .i64 1) ∧ w = w' := by
 go_enter Tryz.func86, Tryz.ntmps86
 go_wp2_with fail
 go_ret
 exact ⟨by first | rfl | simp, rfl⟩
end Go.Proofs.YtbelcgjbhpjnpaaGreat.Sh

/- shadow by its contracts: at, put, fresh. -/
namespace Go.Proofs.YtbelcgjbhpjnpaaGreat.Sh
open Go.RowKit Pk Dk Pg
attribute [local go_sem ↓] Go.wp_at_zero Go.wp_at_succ
set_option maxRecDepth 100000 in
set_option maxHeartbeats 2000000 in
theorem at_any {w : World} {x : X} {n : Nat} {c : C} (h : At w x n c) (l : Int) :
  Calls Tryz.prog 89 #[sp x.b, .int .i64 l] w fun e w' => e = .returned (.int .i64 (c.atF l)) ∧ w = w' := by
 have K := works_any h
 have f2 := h.f2
 obtain ⟨TA, tc, htv, htc⟩ := h.ht.val
 rw [htv] at f2
 have HR := Lib.hid (show ∀ r, c.atF l = r → c.atF l = r from fun r h => h)
 have tl := h.tl
 by_cases hb : c.broken = true
 ·have hw : c.worksF = 13 := by unfold C.worksF; rw [if_pos hb]
  have HA := Lib.hid (show c.atF l = 13 from by unfold C.atF; rw [if_pos hb])
  rw [hw] at K
  have K := Lib.hid K
  clear h hb hw
  generalize c.atF l = r at *
  unfold sp at *
  go_enter Tryz.func89, Tryz.ntmps89
  go_wp2_with fail
  refine K.out.mono ?_
  rintro e w1 ⟨rfl, rfl⟩
  go_wp2_with fail
  go_ret
  exact ⟨by rw [HA.out]; first | rfl | simp, rfl⟩
 ·have hw : c.worksF = 0 := by unfold C.worksF; rw [if_neg hb]
  rw [hw] at K
  have K := Lib.hid K
  by_cases h1 : l < 0
  ·have HA := Lib.hid (show c.atF l = 3 from by unfold C.atF C.hasF; rw [if_neg hb]; simp; omega)
   clear h hb hw
   generalize c.atF l = r at *
   unfold sp at *
   go_enter Tryz.func89, Tryz.ntmps89
   go_wp2_with fail
   refine K.out.mono ?_
   rintro e w1 ⟨rfl, rfl⟩
   go_wp2_with fail
   go_ret
   exact ⟨by rw [HA.out]; first | rfl | simp, rfl⟩
  ·obtain ⟨k, rfl⟩ := Int.eq_ofNat_of_zero_le (show 0 ≤ l by omega)
   by_cases h2 : k < c.table.length
   ·obtain ⟨g, cp, hv, hk⟩ := h.tk k h2
    rw [hv] at htv
    injection htv with ht1 ht2 ht3
    subst ht1 ht3
    obtain ⟨v, hv0⟩ : ∃ v, c.table.getD k 0 = v := ⟨_, rfl⟩
    rw [hv0] at hk
    have h2I : ¬ (c.table.length : Int) ≤ (k : Int) := by omega
    have h2J : (k : Int) < (c.table.length : Int) := by omega
    by_cases h3 : v < 0
    ·have ht : c.table.getD ((k : Nat) : Int).toNat 0 = v := by rw [show ((k : Nat) : Int).toNat = k from by omega]; exact hv0
     have HA := Lib.hid (show c.atF k = 3 from by unfold C.atF C.hasF; rw [if_neg hb, ht, if_neg (by simp only [Bool.and_eq_true, decide_eq_true_eq]; omega)])
     clear ht
     clear h hb hw hv hv0
     generalize c.atF k = r at *
     generalize c.table.length = tn at *
     unfold sp at *
     go_enter Tryz.func89, Tryz.ntmps89
     go_wp2_with fail
     refine K.out.mono ?_
     rintro e w1 ⟨rfl, rfl⟩
     go_wp2_with fail
     go_ret
     exact ⟨by rw [HA.out]; first | rfl | simp, rfl⟩
    ·have HA := Lib.hid (show c.atF k = 0 from by
      have ht : c.table.getD ((k : Nat) : Int).toNat 0 = v := by rw [show ((k : Nat) : Int).toNat = k from by omega]; exact hv0
      have hh : c.hasF k = true := by unfold C.hasF; rw [ht]; simp only [Bool.and_eq_true, decide_eq_true_eq]; omega
      unfold C.atF; rw [if_neg hb, if_pos hh])
     clear h hb hw hv hv0
     generalize c.atF k = r at *
     generalize c.table.length = tn at *
     unfold sp at *
     go_enter Tryz.func89, Tryz.ntmps89
     go_wp2_with fail
     refine K.out.mono ?_
     rintro e w1 ⟨rfl, rfl⟩
     go_wp2_with fail
     go_ret
     exact ⟨by rw [HA.out]; first | rfl | simp, rfl⟩
   ·have HA := Lib.hid (show c.atF k = 3 from by unfold C.atF C.hasF; rw [if_neg hb]; simp; omega)
    have h2I : (c.table.length : Int) ≤ (k : Int) := by omega
    clear h hb hw
    generalize c.atF k = r at *
    generalize c.table.length = tn at *
    unfold sp at *
    go_enter Tryz.func89, Tryz.ntmps89
    go_wp2_with fail
    refine K.out.mono ?_
    rintro e w1 ⟨rfl, rfl⟩
    go_wp2_with fail
    go_ret
    exact ⟨by rw [HA.out]; first | rfl | simp, rfl⟩
set_option maxRecDepth 100000 in
set_option maxHeartbeats 2000000 in
theorem put_any {w : World} {x : X} {n : Nat} {c : C} (h : At w x n c) (id kind : Int) (s : ByteArray) (hid : id ≤ 9223372036854775807) (hep : 0 ≤ c.ep ∧ c.ep ≤ 1099511627776) (hc : c.d.calls ≤ 3999999999999999990) (hr : c.d.armed ≤ 9223372036854775807) :
  Calls Tryz.prog 100 #[sp x.b, .int .i64 id, .int .i64 kind, .string s] w fun e w' => e = .returned (.int .i64 (pwriteF c.d n id (c.ep + 1) kind s.data.toList).2) ∧ At w' x n { c with d := (pwriteF c.d n id (c.ep + 1) kind s.data.toList).1 } ∧ Only x.L.fp w w' := by
 have KPW := pwrite_any (w := w.drew) h.hd.drew id (c.ep + 1) kind s hid hc hr
 have HD := Lib.hid (fun (w' : World) (hd : DiskAt w' x.L n (pwriteF c.d n id (c.ep + 1) kind s.data.toList).1) (ho : Only x.L.fp w.drew w') => At.disk h.drew hd ho)
 have f0 := h.f0
 have f5 := h.f5
 have q1 : IntKind.i64.wrap (c.ep + 1) = c.ep + 1 := IntWalk.i64_in _ (by omega)
 have HK := Lib.hid (show w.drew.cell? ⟨x.b, 0, none⟩ = some (dp x.L.b) ∧ w.drew.cell? ⟨x.b, 5, none⟩ = some (.int .i64 c.ep) from ⟨f0, f5⟩)
 have HP := Lib.hid (show ∀ w', Only x.L.fp w.drew w' → (w'.cell? ⟨x.b, 0, none⟩ = some (dp x.L.b) ∧ w'.cell? ⟨x.b, 5, none⟩ = some (.int .i64 c.ep)) from fun w' ho => by
  have B := h.hb.drew.only ho (fun hm => by
   simp only [Loc.fp, List.mem_cons, List.not_mem_nil, or_false] at hm
   rcases hm with hm | hm | hm | hm
   ·exact h.hb.ne_ h.hd.hb (by decide) hm
   ·exact h.hb.ne_ h.hd.hN (by decide) hm
   ·exact h.hb.ne_ h.hd.hO (by decide) hm
   ·exact h.hb.ne_ h.hd.hL (by decide) hm)
  exact ⟨B.cell_some (i := 0) rfl, B.cell_some (i := 5) rfl⟩)
 clear h
 generalize (pwriteF c.d n id (c.ep + 1) kind s.data.toList).2 = er at *
 generalize (pwriteF c.d n id (c.ep + 1) kind s.data.toList).1 = d2 at *
 generalize c.ep = ep at *
 unfold sp dp pageV at *
 have KPW := Lib.hid KPW
 go_enter Tryz.func100, Tryz.ntmps100
 go_wp2_with fail
 refine wp_region_held_drew (S := fun W' => W'.cell? ⟨x.b, 0, none⟩ = some (.pointer (some ⟨x.L.b, 0, none⟩)) ∧ W'.cell? ⟨x.b, 5, none⟩ = some (.int .i64 ep)) (by kernel_rfl) (HK.out) (fun hHeld => ?_)
 refine zpl [(0,9),(1,10),(2,11),(3,12),(4,13),(5,14),(6,15),(7,16),(8,17),(9,18),(10,19),(11,20),(12,21)] ?_
 iterate 13 (refine ztp (v := ?_) rfl (by kernel_rfl) (fun _ _ _ h => h) (by assumption) ?_ ?_; rotate_left; (·intro w hS; (try dsimp only at hS); go_simp; try with_reducible rfl); try simp only [Act.put, pa, pb, pc])
 refine zpe ?_
 refine wpAnyH_ready (rs := [13]) (by kernel_rfl) (by simp) ?_
 refine AllReadyH.cons (o := ⟨some 22, _, _, _, _, _⟩) rfl (fun K hK => ?_) AllReadyH.nil
 go_simp
 go_at_call 162
 refine KPW.out.mono ?_
 rintro e w1 ⟨rfl, dd, ow⟩
 have DV := Lib.hid dd
 have OW := Lib.hid ow
 clear dd ow
 go_simp
 refine hK.out _ _ (HP.out _ OW.out) (fun hHeld => ?_)
 try simp only [Act.put, pa, pb, pc]
 refine zpl [(14,8)] ?_
 iterate 1 (refine ztp (v := ?_) rfl (by kernel_rfl) (fun _ _ _ h => h) (by assumption) ?_ ?_; rotate_left; (·intro w hS; (try dsimp only at hS); go_simp; try with_reducible rfl); try simp only [Act.put, pa, pb, pc])
 refine zpe ?_
 refine wpAnyH_done (by kernel_rfl) ?_ _
 go_wp2_with fail
 go_ret
 exact ⟨by first | rfl | simp, HD.out _ DV.out OW.out, (Only.refl _ w).drew.trans OW.out⟩
/-- a physical page taken, and a payload written there -/
def C.freshF (c : C) (n : Nat) (p : List UInt8) : C × Int × Int :=
 if (Fm.takeF c.m).2.2 ≠ 0 then ({ c with m := (Fm.takeF c.m).1 }, 0, (Fm.takeF c.m).2.2)
 else if (pwriteF c.d n (Fm.takeF c.m).2.1 (c.ep + 1) 2 p).2 ≠ 0 then ({ c with m := (Fm.leaveF (Fm.takeF c.m).1 (Fm.takeF c.m).2.1).1, d := (pwriteF c.d n (Fm.takeF c.m).2.1 (c.ep + 1) 2 p).1 }, 0, (pwriteF c.d n (Fm.takeF c.m).2.1 (c.ep + 1) 2 p).2)
 else ({ c with m := (Fm.takeF c.m).1, d := (pwriteF c.d n (Fm.takeF c.m).2.1 (c.ep + 1) 2 p).1 }, (Fm.takeF c.m).2.1, 0)
theorem takeF_le (m : List Int) (h : m.length ≤ 1024) : (Fm.takeF m).2.1 ≤ 1024 ∧ 0 ≤ (Fm.takeF m).2.1 := by
 unfold Fm.takeF
 split
 ·exact ⟨by show (Fm.firstF m 0 : Int) ≤ _; omega, by show (0 : Int) ≤ (Fm.firstF m 0 : Int); omega⟩
 ·exact ⟨by show (0 : Int) ≤ _; omega, by show (0 : Int) ≤ 0; omega⟩
theorem mg_fp (x : X) : ∀ g ∈ [x.mg], g ∈ x.fp := by intro g hg; simp at hg; subst hg; simp [X.fp]
theorem L_fp (x : X) : ∀ g ∈ x.L.fp, g ∈ x.fp := by intro g hg; simp [X.fp, hg]
set_option maxRecDepth 100000 in
set_option maxHeartbeats 2000000 in
theorem fresh_any {w : World} {x : X} {n : Nat} {c : C} (h : At w x n c) (s : ByteArray) (hep : 0 ≤ c.ep ∧ c.ep ≤ 1099511627776) (hc : c.d.calls ≤ 3999999999999999990) (hr : c.d.armed ≤ 9223372036854775807) :
  Calls Tryz.prog 88 #[sp x.b, .string s] w fun e w' => e = .returned (.tuple #[.int .i64 (c.freshF n s.data.toList).2.1, .int .i64 (c.freshF n s.data.toList).2.2]) ∧ At w' x n (c.freshF n s.data.toList).1 ∧ Only x.fp w w' := by
 have KT := Fm.take_any h.hm
 have HT := Lib.hid (fun (w' : World) (hm : Fm.MapAt w' x.mb x.mg (Fm.takeF c.m).1) (ho : Only [x.mg] w w') => At.map h hm ho)
 have hml : c.m.length ≤ 1024 := h.hm.hl
 have hid := takeF_le c.m hml
 have f1 := h.f1
 obtain ⟨R, hR⟩ : ∃ R, c.freshF n s.data.toList = R := ⟨_, rfl⟩
 rw [hR]
 unfold C.freshF at hR
 by_cases h1 : (Fm.takeF c.m).2.2 = 0
 ·rw [if_neg (by simpa using h1)] at hR
  rw [h1] at KT
  generalize (Fm.takeF c.m).2.1 = id at *
  generalize (Fm.takeF c.m).1 = m1 at *
  have KP := Lib.hid (fun (w' : World) (hh : At w' x n { c with m := m1 }) => put_any hh id 2 s (by omega) hep hc hr)
  dsimp only at KP
  by_cases h2 : (pwriteF c.d n id (c.ep + 1) 2 s.data.toList).2 = 0
  ·rw [if_neg (by simpa using h2)] at hR
   rw [h2] at KP
   subst hR
   generalize (pwriteF c.d n id (c.ep + 1) 2 s.data.toList).1 = d1 at *
   have KT := Lib.hid KT
   clear h h1 h2
   unfold sp Fm.mp at *
   go_enter Tryz.func88, Tryz.ntmps88
   go_wp2_with fail
   refine KT.out.mono ?_
   rintro e w1 ⟨rfl, mm, ow⟩
   have A1 := Lib.hid (HT.out _ mm ow)
   have O1 := Lib.hid ow
   clear mm ow
   go_wp2_with fail
   refine (KP.out _ A1.out).mono ?_
   rintro e w2 ⟨rfl, aa, ow⟩
   have A2 := Lib.hid aa
   have O2 := Lib.hid ((O1.out.mono (fun g hg _ => mg_fp x g hg)).trans (ow.mono (fun g hg _ => L_fp x g hg)))
   clear aa ow
   go_wp2_with fail
   go_ret2
   exact ⟨by first | rfl | simp, A2.out, O2.out⟩
  ·rw [if_pos h2] at hR
   subst hR
   have hq : ((pwriteF c.d n id (c.ep + 1) 2 s.data.toList).2 != 0) = true := by rw [bne_iff_ne]; exact h2
   generalize (pwriteF c.d n id (c.ep + 1) 2 s.data.toList).1 = d1 at *
   generalize (pwriteF c.d n id (c.ep + 1) 2 s.data.toList).2 = er at *
   have KT := Lib.hid KT
   clear h h1 h2
   unfold sp Fm.mp at *
   go_enter Tryz.func88, Tryz.ntmps88
   go_wp2_with fail
   refine KT.out.mono ?_
   rintro e w1 ⟨rfl, mm, ow⟩
   have A1 := Lib.hid (HT.out _ mm ow)
   have O1 := Lib.hid ow
   clear mm ow
   go_wp2_with fail
   refine (KP.out _ A1.out).mono ?_
   rintro e w2 ⟨rfl, aa, ow⟩
   have A2 := Lib.hid aa
   have O2 := Lib.hid ((O1.out.mono (fun g hg _ => mg_fp x g hg)).trans (ow.mono (fun g hg _ => L_fp x g hg)))
   have f1' := aa.f1
   have KL := Fm.leave_any aa.hm id
   dsimp only at KL
   have KL := Lib.hid KL
   unfold Fm.mp at *
   clear aa ow
   go_wp2_with fail
   refine KL.out.mono ?_
   rintro e w3 ⟨rfl, mm, ow⟩
   have A3 := Lib.hid (A2.out.map mm ow)
   have O3 := Lib.hid (O2.out.trans (ow.mono (fun g hg _ => mg_fp x g hg)))
   clear mm ow
   go_wp2_with fail
   go_ret2
   exact ⟨by first | rfl | simp, A3.out, O3.out⟩
 ·rw [if_pos h1] at hR
  subst hR
  have hq : ((Fm.takeF c.m).2.2 != 0) = true := by rw [bne_iff_ne]; exact h1
  generalize (Fm.takeF c.m).2.1 = id at *
  generalize (Fm.takeF c.m).2.2 = er at *
  generalize (Fm.takeF c.m).1 = m1 at *
  have KT := Lib.hid KT
  clear h h1
  unfold sp Fm.mp at *
  go_enter Tryz.func88, Tryz.ntmps88
  go_wp2_with fail
  refine KT.out.mono ?_
  rintro e w1 ⟨rfl, mm, ow⟩
  have A1 := Lib.hid (HT.out _ mm ow)
  have O1 := Lib.hid (ow.mono (S' := x.fp) (fun g hg _ => mg_fp x g hg))
  clear mm ow
  go_wp2_with fail
  go_ret2
  exact ⟨by first | rfl | simp, A1.out, O1.out⟩
end Go.Proofs.YtbelcgjbhpjnpaaGreat.Sh

/- shadow by its contracts: the table changed; Index. -/
namespace Go.Proofs.YtbelcgjbhpjnpaaGreat.Sh
open Go.RowKit Pk Dk Pg
attribute [local go_sem ↓] Go.wp_at_zero Go.wp_at_succ
section
variable {w w' : World} {x : X} {n : Nat} {c : C}
theorem sl_int {v : Value} {k : Nat} {l : List Value} (S : Sl w 3 v k l) : ∀ g ∈ ownS v, ∃ cs, Blk w g 3 cs := by
 intro g hg
 rcases S.2 with ⟨A, rfl, _⟩ | ⟨g', cap, rest, rfl, h0, B, _⟩
 ·cases A <;> simp [ownS] at hg
 ·simp [ownS] at hg
  rw [hg.2]
  exact ⟨_, B⟩
theorem At.ints_ne (h : At w x n c) {v : Value} {k : Nat} {l : List Value} (S : Sl w 3 v k l) : x.b ∉ ownS v ∧ x.mb ∉ ownS v ∧ ∀ g ∈ x.L.fp, g ∉ ownS v := by
 refine ⟨fun hg => ?_, fun hg => ?_, fun g hgL hg => ?_⟩
 ·obtain ⟨cs, B⟩ := sl_int S _ hg
  exact h.hb.ne_ B (by decide) rfl
 ·obtain ⟨cs, B⟩ := sl_int S _ hg
  exact h.hm.hb.ne_ B (by decide) rfl
 ·obtain ⟨cs, B⟩ := sl_int S _ hg
  simp only [Loc.fp, List.mem_cons, List.not_mem_nil, or_false] at hgL
  rcases hgL with rfl | rfl | rfl | rfl
  ·exact h.hd.hb.ne_ B (by decide) rfl
  ·exact h.hd.hN.ne_ B (by decide) rfl
  ·exact h.hd.hO.ne_ B (by decide) rfl
  ·exact h.hd.hL.ne_ B (by decide) rfl
/-- a number in the table stored -/
theorem At.setT (h : At w x n c) (k : Nat) (hk : k < c.table.length) (u : Int) : ∃ g cp, x.tv = .slice (some ⟨g, 0, none⟩) c.table.length cp ∧ w.cell? ⟨g, k, none⟩ = some (.int .i64 (c.table.getD k 0)) ∧ w.frozen? ⟨g, k, none⟩ = false ∧
  At (w.setCell ⟨g, k, none⟩ (.int .i64 u)) x n { c with table := c.table.set k u } ∧ Only x.fp w (w.setCell ⟨g, k, none⟩ (.int .i64 u)) := by
 obtain ⟨g, cp, hv, S, hg, z, ow⟩ := h.ht.set_ k hk (.int .i64 u)
 obtain ⟨g', cp', hv', ck⟩ := h.tk k hk
 rw [hv] at hv'
 injection hv' with e1 e2 e3
 injection e1 with e1
 injection e1 with e1
 subst e1
 have ne := h.ints_ne h.ht
 rw [hg] at ne
 refine ⟨g, cp, hv, ck, z, ⟨h.hb.only ow ne.1, h.hd.only ow ne.2.2, h.hm.only ow ne.2.1 (by rw [← hg]; exact h.n1), ?_, h.ho.only ow (fun y hy hm => h.n4 y (by rw [hg]; exact hm) hy), h.hp.only ow (fun y hy hm => h.n5 y (by rw [hg]; exact hm) hy), h.n1, h.n2, h.n3, h.n4, h.n5, h.n6, by show (c.table.set k u).length ≤ 512; rw [List.length_set]; exact h.tl⟩, ow.mono (fun y hy _ => by
  have : y ∈ ownS x.tv := by rw [hg]; exact hy
  simp [X.fp, this])⟩
 show Sl _ _ x.tv (c.table.set k u).length (nvs' (c.table.set k u))
 rw [List.length_set, ← nvs'_set]
 exact S
/-- a number more in the table -/
theorem At.addT (h : At w x n c) (u : Int) {v' : Value} (S : Sl w' 3 v' (c.table.length + 1) (nvs' (c.table ++ [u]))) (ow : Only (ownS x.tv) w w') (fr : ∀ g ∈ ownS v', g ∈ ownS x.tv ∨ w.heap.size ≤ g) (hl : c.table.length + 1 ≤ 512) :
  w'.cell? ⟨x.b, 2, none⟩ = some x.tv ∧ w'.frozen? ⟨x.b, 2, none⟩ = false ∧ At (w'.setCell ⟨x.b, 2, none⟩ v') { x with tv := v' } n { c with table := c.table ++ [u] } ∧ Only x.fp w (w'.setCell ⟨x.b, 2, none⟩ v') ∧ ∀ g ∈ ({ x with tv := v' } : X).fp, g ∈ x.fp ∨ w.heap.size ≤ g := by
 have ne := h.ints_ne h.ht
 have B1 := h.hb.only ow ne.1
 have B2 : Blk (w'.setCell ⟨x.b, 2, none⟩ v') x.b 115 #[dp x.L.b, Fm.mp x.mb, v', x.ov, x.pv, .int .i64 c.ep, .int .i64 c.slot, .bool c.broken] := B1.set_ 2 v'
 have o2 := (Only.refl [x.b] w').setCell (p := ⟨x.b, 2, none⟩) (by simp) v'
 have D1 := h.hd.only ow ne.2.2
 have M1 := h.hm.only ow ne.2.1 h.n1
 have O1 := h.ho.only ow (fun y hy hm => h.n4 y hm hy)
 have P1 := h.hp.only ow (fun y hy hm => h.n5 y hm hy)
 have hbn : ∀ {t : TypeId} {cs : Array Value} {b : Nat}, Blk w' b t cs → t ≠ 115 → b ∉ [x.b] := by
  intro t cs b B hne hm
  simp at hm
  subst hm
  exact hne (B.inj B1).1
 have hs : ∀ {v : Value} {k : Nat} {l : List Value}, Sl w' 3 v k l → ∀ g ∈ ownS v, g ∉ [x.b] := fun S g hg => by
  obtain ⟨cs, B⟩ := sl_int S g hg
  exact hbn B (by decide)
 refine ⟨B1.cell_some rfl, B1.frozen 2 (by simp [fieldsS]), ⟨B2, D1.only o2 ?_, M1.only o2 (hbn M1.hb (by decide)) (hbn M1.hg (by decide)), ?_, O1.only o2 (hs O1), P1.only o2 (fun g hg hm => P1.far B1 (by decide) (by decide) (by rw [← List.mem_singleton.1 hm]; exact hg)), ?_, h.n2, h.n3, ?_, ?_, h.n6, by show (c.table ++ [u]).length ≤ 512; rw [List.length_append]; exact hl⟩, ?_, ?_⟩
 ·intro g hg
  simp only [Loc.fp, List.mem_cons, List.not_mem_nil, or_false] at hg
  rcases hg with rfl | rfl | rfl | rfl
  ·exact hbn D1.hb (by decide)
  ·exact hbn D1.hN (by decide)
  ·exact hbn D1.hO (by decide)
  ·exact hbn D1.hL (by decide)
 ·show Sl _ _ v' (c.table ++ [u]).length _
  rw [List.length_append]
  exact S.only o2 (hs S)
 ·exact fun hg => (fr x.mg hg).elim h.n1 (fun hge => by have := h.hm.hg.lt; omega)
 ·exact fun g hg ho => (fr g hg).elim (fun h1 => h.n4 g h1 ho) (fun hge => by have := h.ho.lt g ho; omega)
 ·exact fun g hg ho => (fr g hg).elim (fun h1 => h.n5 g h1 ho) (fun hge => by have := h.hp.lt g ho; omega)
 ·exact (ow.mono (fun g hg _ => by simp [X.fp, hg])).trans (o2.mono (fun g hg _ => by simp at hg; subst hg; simp [X.fp]))
 ·intro g hg
  simp only [X.fp, List.mem_cons, List.mem_append] at hg ⊢
  rcases hg with hg | hg | hg | ((hg | hg) | hg) | hg
  ·exact .inl (.inl hg)
  ·exact .inl (.inr (.inl hg))
  ·exact .inl (.inr (.inr (.inl hg)))
  ·exact .inl (.inr (.inr (.inr (.inl (.inl (.inl hg))))))
  ·exact (fr g hg).imp (fun h1 => .inr (.inr (.inr (.inl (.inl (.inr h1)))))) id
  ·exact .inl (.inr (.inr (.inr (.inl (.inr hg)))))
  ·exact .inl (.inr (.inr (.inr (.inr hg))))
end
set_option maxHeartbeats 1000000 in
theorem index_sl {w : World} {v : Value} {l : List Int} (S : Sl w 3 v l.length (nvs' l)) (hl : l.length ≤ 1000000) (k : Int) :
  Calls Tryz.prog 87 #[v, .int .i64 k] w fun e w' => e = .returned (.int .i64 (Fm.indexF l k)) ∧ w = w' := by
 by_cases h0 : 0 < l.length
 ·obtain ⟨g, cap, rest, rfl, B, hc, _⟩ := S.form h0
  exact Fm.index_any g l.length cap l rfl hl k w (fun j hj => B.cell_some (by rw [List.getElem?_toArray, List.getElem?_append_left (by simpa using hj), nvs'_get _ _ hj]))
 ·have hn : l = [] := List.eq_nil_of_length_eq_zero (by omega)
  subst hn
  obtain ⟨A, c, rfl, _⟩ := S.val
  have e1 : Fm.indexF [] k = -1 := rfl
  rw [e1]
  clear S
  simp only [List.length_nil]
  go_enter Tryz.func87, Tryz.ntmps87
  go_wp2_with fail
  go_loopw [8] (fun iv wr => iv = .int .i64 0 ∧ wr = w) (fun _ _ => 0)
  case atStart => exact ⟨rfl, rfl⟩
  case round =>
   obtain ⟨rfl, rfl⟩ := hrel
   go_wp2_with fail
   go_ret
   exact ⟨by first | rfl | simp, rfl⟩
/-- the place of the first page that is not there; how many there are, if all are -/
def slotF (t : List Int) : Nat := Fm.firstF t (-1)
theorem slotF_le (t : List Int) : slotF t ≤ t.length := by unfold slotF Fm.firstF; exact List.findIdx_le_length
theorem indexF_slot (t : List Int) : Fm.indexF t (-1) = if slotF t < t.length then (slotF t : Int) else -1 := rfl
end Go.Proofs.YtbelcgjbhpjnpaaGreat.Sh

/- shadow by its contracts: New. -/
namespace Go.Proofs.YtbelcgjbhpjnpaaGreat.Sh
open Go.RowKit Pk Dk Pg
attribute [local go_sem ↓] Go.wp_at_zero Go.wp_at_succ exec_app
theorem info_int2 : (Tryz.prog.info? 3).map (fun i => (i.zero, i.size, i.bytes)) = some (some (.int .i64 0), 1, 8) := by kernel_rfl
def putT (t : List Int) (l : Nat) (u : Int) : List Int := if l = t.length then t ++ [u] else t.set l u
def C.newF (c : C) (n : Nat) (p : List UInt8) : C × Int × Int :=
 if c.broken = true then (c, 0, 13)
 else if 232 < p.length then (c, 0, 4)
 else if 512 ≤ slotF c.table then (c, 0, 11)
 else if (c.freshF n p).2.2 ≠ 0 then ((c.freshF n p).1, 0, (c.freshF n p).2.2)
 else ({ (c.freshF n p).1 with table := putT c.table (slotF c.table) (c.freshF n p).2.1 }, slotF c.table, 0)
theorem freshF_table (c : C) (n : Nat) (p : List UInt8) : (c.freshF n p).1.table = c.table ∧ (c.freshF n p).1.old = c.old ∧ (c.freshF n p).1.parts = c.parts ∧ (c.freshF n p).1.ep = c.ep ∧ (c.freshF n p).1.slot = c.slot ∧ (c.freshF n p).1.broken = c.broken := by
 unfold C.freshF
 split
 ·exact ⟨rfl, rfl, rfl, rfl, rfl, rfl⟩
 ·split <;> exact ⟨rfl, rfl, rfl, rfl, rfl, rfl⟩
/-- a call behind which a store lies there anew -/
def Post (w w' : World) (x : X) (n : Nat) (c' : C) : Prop := ∃ x', x'.b = x.b ∧ x'.L = x.L ∧ At w' x' n c' ∧ Only x.fp w w' ∧ ∀ g ∈ x'.fp, g ∈ x.fp ∨ w.heap.size ≤ g
theorem Post.self {w w' : World} {x : X} {n : Nat} {c' : C} (h : At w' x n c') (ho : Only x.fp w w') : Post w w' x n c' := ⟨x, rfl, rfl, h, ho, fun _ hg => .inl hg⟩
set_option maxRecDepth 100000 in
set_option maxHeartbeats 4000000 in
theorem new_any {w : World} {x : X} {n : Nat} {c : C} (h : At w x n c) (s : ByteArray) (hs : s.size ≤ 9223372036854775807) (hep : 0 ≤ c.ep ∧ c.ep ≤ 1099511627776) (hc : c.d.calls ≤ 3999999999999999990) (hr : c.d.armed ≤ 9223372036854775807) :
  Calls Tryz.prog 28 #[sp x.b, .string s] w fun e w' => e = .returned (.tuple #[.int .i64 (c.newF n s.data.toList).2.1, .int .i64 (c.newF n s.data.toList).2.2]) ∧ Post w w' x n (c.newF n s.data.toList).1 := by
 have KW := works_any h
 have hl : s.data.toList.length = s.size := by simp
 obtain ⟨R, hR⟩ : ∃ R, c.newF n s.data.toList = R := ⟨_, rfl⟩
 rw [hR]
 unfold C.newF at hR
 rw [hl] at hR
 have HH := Lib.hid h
 by_cases h1 : c.broken = true
 ·rw [if_pos h1] at hR
  subst hR
  rw [show c.worksF = 13 from by unfold C.worksF; rw [if_pos h1]] at KW
  have KW := Lib.hid KW
  clear h h1
  unfold sp at *
  go_enter Tryz.func28, Tryz.ntmps28
  go_wp2_with fail
  refine KW.out.mono ?_
  rintro e w1 ⟨rfl, rfl⟩
  go_wp2_with fail
  go_ret2
  exact ⟨by first | rfl | simp, .self HH.out (Only.refl _ _)⟩
 rw [if_neg h1] at hR
 rw [show c.worksF = 0 from by unfold C.worksF; rw [if_neg h1]] at KW
 have KW := Lib.hid KW
 have KI := index_sl h.ht (by have := h.tl; omega) (-1)
 rw [indexF_slot] at KI
 have hsl := slotF_le c.table
 have f2 := h.f2
 have tl := h.tl
 obtain ⟨TA, tc, htv, htc⟩ := h.ht.val
 obtain ⟨l, hl2⟩ : ∃ l, slotF c.table = l := ⟨_, rfl⟩
 rw [hl2] at KI hR hsl
 by_cases h2 : 232 < s.size
 ·rw [if_pos h2] at hR
  subst hR
  have h2I : (232 : Int) < (s.size : Int) := by omega
  by_cases h3 : l < c.table.length
  ·rw [if_pos h3] at KI
   have KI := Lib.hid KI
   have h3I : ¬ (l : Int) < 0 := by omega
   clear h h1 h2 htv
   unfold sp at *
   go_enter Tryz.func28, Tryz.ntmps28
   go_wp2_with fail
   refine KW.out.mono ?_
   rintro e w1 ⟨rfl, rfl⟩
   go_wp2_with fail
   refine KI.out.mono ?_
   rintro e w1 ⟨rfl, rfl⟩
   go_wp2_with fail
   go_ret2
   exact ⟨by first | rfl | simp, .self HH.out (Only.refl _ _)⟩
  ·rw [if_neg h3] at KI
   have KI := Lib.hid KI
   clear h h1 h2
   rw [htv] at f2 KI
   unfold sp at *
   go_enter Tryz.func28, Tryz.ntmps28
   go_wp2_with fail
   refine KW.out.mono ?_
   rintro e w1 ⟨rfl, rfl⟩
   go_wp2_with fail
   refine KI.out.mono ?_
   rintro e w1 ⟨rfl, rfl⟩
   go_wp2_with fail
   go_ret2
   exact ⟨by first | rfl | simp, .self HH.out (Only.refl _ _)⟩
 rw [if_neg h2] at hR
 have h2I : ¬ (232 : Int) < (s.size : Int) := by omega
 by_cases h4 : 512 ≤ l
 ·rw [if_pos h4] at hR
  subst hR
  have h3 : ¬ l < c.table.length := by omega
  have h4I : (512 : Int) ≤ (c.table.length : Int) := by omega
  rw [if_neg h3] at KI
  have KI := Lib.hid KI
  clear h h1 h2
  rw [htv] at f2 KI
  unfold sp at *
  go_enter Tryz.func28, Tryz.ntmps28
  go_wp2_with fail
  refine KW.out.mono ?_
  rintro e w1 ⟨rfl, rfl⟩
  go_wp2_with fail
  refine KI.out.mono ?_
  rintro e w1 ⟨rfl, rfl⟩
  go_wp2_with fail
  go_ret2
  exact ⟨by first | rfl | simp, .self HH.out (Only.refl _ _)⟩
 rw [if_neg h4] at hR
 have KF := fresh_any h s hep hc hr
 have hft := freshF_table c n s.data.toList
 generalize hF : c.freshF n s.data.toList = F at *
 obtain ⟨c1, id, er⟩ := F
 dsimp only at KF hft hR
 have KF := Lib.hid KF
 by_cases h5 : er = 0
 ·rw [if_neg (by simpa using h5)] at hR
  subst h5
  have h4I : ¬ (512 : Int) ≤ (l : Int) := by omega
  by_cases h3 : l < c.table.length
  ·rw [if_pos h3] at KI
   have KI := Lib.hid KI
   have h3I : ¬ (l : Int) < 0 := by omega
   have h3J : ((l : Int) == (c.table.length : Int)) = false := by rw [beq_eq_false_iff_ne]; omega
   have hput : putT c.table l id = c.table.set l id := by unfold putT; rw [if_neg (by omega)]
   rw [hput] at hR
   subst hR
   have HFT := Lib.hid hft
   clear h h1 h2 hF hput hft htv
   unfold sp at *
   go_enter Tryz.func28, Tryz.ntmps28
   go_wp2_with fail
   refine KW.out.mono ?_
   rintro e w1 ⟨rfl, rfl⟩
   go_wp2_with fail
   refine KI.out.mono ?_
   rintro e w1 ⟨rfl, rfl⟩
   go_wp2_with fail
   refine KF.out.mono ?_
   rintro e w1 ⟨rfl, aa, ow⟩
   have f2' := aa.f2
   obtain ⟨g, cp, hv, ck, z, A2, o2⟩ := aa.setT l (by rw [HFT.out.1]; exact h3) id
   rw [hv, HFT.out.1] at f2'
   have AX := Lib.hid (show At (w1.setCell ⟨g, l, none⟩ (.int .i64 id)) x n { c1 with table := c.table.set l id } from by rw [← HFT.out.1]; exact A2)
   have OX := Lib.hid (ow.trans o2)
   generalize c1.table.getD l 0 = ov at ck
   clear aa ow A2 o2 hv
   clear f2
   generalize c.table.length = tn at *
   go_wp2_with fail
   go_ret2
   exact ⟨by first | rfl | simp, .self AX.out OX.out⟩
  ·obtain rfl : l = c.table.length := by omega
   rw [if_neg h3] at KI
   have hput : putT c.table c.table.length id = c.table ++ [id] := by unfold putT; rw [if_pos rfl]
   rw [hput] at hR
   subst hR
   have HFT := Lib.hid hft
   have HTV := Lib.hid htv
   rw [htv] at f2 KI
   have KI := Lib.hid KI
   clear h h1 h2 hF hput hft htv hl2 hsl h3 h4
   generalize htn : c.table.length = tn at *
   have HTN := Lib.hid htn
   clear htn
   unfold sp at *
   go_enter Tryz.func28, Tryz.ntmps28
   go_wp2_with fail
   refine KW.out.mono ?_
   rintro e w1 ⟨rfl, rfl⟩
   go_wp2_with fail
   refine KI.out.mono ?_
   rintro e w1 ⟨rfl, rfl⟩
   go_wp2_with fail
   refine KF.out.mono ?_
   rintro e w1 ⟨rfl, aa, ow⟩
   have f2' := aa.f2
   have St := aa.ht
   rw [HFT.out.1, HTN.out] at St
   obtain ⟨v', w2, ea, S2, ow2, fr2⟩ := append_sl1 (P := Tryz.prog) St 52 52 (.int .i64 0) 8 Tryz.underlying52 info_int2 rfl (.int .i64 id) rfl (by unfold maxLen; omega) (by omega)
   rw [show nvs' c.table ++ [Value.int .i64 id] = nvs' (c.table ++ [id]) from by rw [nvs'_append]; rfl] at S2
   obtain ⟨gg, vc2, rr, rfl, BB, _, _⟩ := S2.form (by omega)
   have w2c : w2.cell? ⟨gg, tn, none⟩ = some (.int .i64 id) := BB.cell_some (by rw [← HTN.out, List.getElem?_toArray, List.getElem?_append_left (by simp), nvs'_append, List.getElem?_append_right (by simp)]; simp [nvs'])
   have w2z : w2.frozen? ⟨gg, tn, none⟩ = false := BB.frozen _ (by have := HTN.out; simp; omega)
   have hlt1 : ((tn : Nat) : Int) < ((tn + 1 : Nat) : Int) := by omega
   have hlt2 : tn < tn + 1 := by omega
   have hadd := aa.addT id (by rw [HFT.out.1, HTN.out]; exact S2) ow2 fr2 (by rw [HFT.out.1, HTN.out]; omega)
   obtain ⟨g2, z2, A3, o3, fr3⟩ := hadd
   rw [HFT.out.1] at A3
   obtain ⟨g, cp, hv, ck, z, A4, o4⟩ := A3.setT tn (by show _ < (c.table ++ [id]).length; have := HTN.out; simp; omega) id
   have hset : (c.table ++ [id]).set tn id = c.table ++ [id] := by
    rw [← HTN.out, List.set_append_right _ _ (Nat.le_refl _), Nat.sub_self]; rfl
   have A4 : At ((w2.setCell ⟨x.b, 2, none⟩ (.slice (some ⟨gg, 0, none⟩) (tn + 1) vc2)).setCell ⟨g, tn, none⟩ (.int .i64 id)) { x with tv := .slice (some ⟨gg, 0, none⟩) (tn + 1) vc2 } n { c1 with table := c.table ++ [id] } := by
    have := A4
    dsimp only at this
    rw [hset] at this
    exact this
   dsimp only at hv
   injection hv with hv1 hv2 hv3
   injection hv1 with hv1
   injection hv1 with hv1
   clear hv2
   subst hv1 hv3
   have hne : x.b ≠ gg := BB.ne_ (aa.hb.only ow2 (aa.ints_ne aa.ht).1) (by decide) |>.symm
   have hne2 : gg ≠ x.b := hne.symm
   have f2'' : (w2.setCell ⟨x.b, 2, none⟩ (.slice (some ⟨gg, 0, none⟩) (tn + 1) vc2)).cell? ⟨x.b, 2, none⟩ = some (.slice (some ⟨gg, 0, none⟩) (tn + 1) vc2) := A3.f2
   rw [HTV.out] at f2' g2 ea
   have EA := Lib.hid ea
   have AX := Lib.hid A4
   have OX := Lib.hid ((ow.trans o3).trans_of o4 (fun g hg hlt => (fr3 g hg).elim (fun h => h) (fun h => by have := ow.size; omega)))
   have FX := Lib.hid (show ∀ g' ∈ ({ x with tv := .slice (some ⟨gg, 0, none⟩) (tn + 1) vc2 } : X).fp, g' ∈ x.fp ∨ w.heap.size ≤ g' from fun g' hg => (fr3 g' hg).imp (fun h => h) (fun h => Nat.le_trans ow.size h))
   generalize (c.table ++ [id]).getD tn 0 = ov at ck
   clear aa ow A3 A4 o3 o4 ow2 fr2 St S2 ea hset fr3 BB
   go_wp2_with fail
   rw [EA.out]
   go_wp2_with fail
   go_ret2
   exact ⟨by first | rfl | simp, { x with tv := .slice (some ⟨gg, 0, none⟩) (tn + 1) vc2 }, rfl, rfl, AX.out, OX.out, FX.out⟩
 ·rw [if_pos h5] at hR
  subst hR
  have hq : (er != 0) = true := by rw [bne_iff_ne]; exact h5
  have h4I : ¬ (512 : Int) ≤ (l : Int) := by omega
  by_cases h3 : l < c.table.length
  ·rw [if_pos h3] at KI
   have KI := Lib.hid KI
   have h3I : ¬ (l : Int) < 0 := by omega
   clear h h1 h2 hF htv
   unfold sp at *
   go_enter Tryz.func28, Tryz.ntmps28
   go_wp2_with fail
   refine KW.out.mono ?_
   rintro e w1 ⟨rfl, rfl⟩
   go_wp2_with fail
   refine KI.out.mono ?_
   rintro e w1 ⟨rfl, rfl⟩
   go_wp2_with fail
   refine KF.out.mono ?_
   rintro e w1 ⟨rfl, aa, ow⟩
   have AX := Lib.hid aa
   have OX := Lib.hid ow
   clear aa ow
   go_wp2_with fail
   go_ret2
   exact ⟨by first | rfl | simp, .self AX.out OX.out⟩
  ·rw [if_neg h3] at KI
   have hlI : ¬ (512 : Int) ≤ (c.table.length : Int) := by omega
   have KI := Lib.hid KI
   clear h h1 h2 hF
   rw [htv] at f2 KI
   unfold sp at *
   go_enter Tryz.func28, Tryz.ntmps28
   go_wp2_with fail
   refine KW.out.mono ?_
   rintro e w1 ⟨rfl, rfl⟩
   go_wp2_with fail
   refine KI.out.mono ?_
   rintro e w1 ⟨rfl, rfl⟩
   go_wp2_with fail
   refine KF.out.mono ?_
   rintro e w1 ⟨rfl, aa, ow⟩
   have AX := Lib.hid aa
   have OX := Lib.hid ow
   clear aa ow
   go_wp2_with fail
   go_ret2
   exact ⟨by first | rfl | simp, .self AX.out OX.out⟩
end Go.Proofs.YtbelcgjbhpjnpaaGreat.Sh

/- shadow by its contracts: Drop, Read, Count. -/
namespace Go.Proofs.YtbelcgjbhpjnpaaGreat.Sh
open Go.RowKit Pk Dk Pg
attribute [local go_sem ↓] Go.wp_at_zero Go.wp_at_succ
def badF (e : Int) : Int := if e = 13 then 13 else 14
set_option maxHeartbeats 1000000 in
theorem bad_any (e : Int) (w : World) :
  Calls Tryz.prog 91 #[.int .i64 e] w fun r w' => r = .returned (.int .i64 (badF e)) ∧ w = w' := by
 have HB := Lib.hid (rfl : badF e = badF e)
 obtain ⟨b, hb⟩ : ∃ b, badF e = b := ⟨_, rfl⟩
 rw [hb]
 unfold badF at hb
 by_cases h : e = 13
 ·rw [if_pos h] at hb
  subst hb h
  go_enter Tryz.func91, Tryz.ntmps91
  go_wp2_with fail
  go_ret
  exact ⟨by first | rfl | simp, rfl⟩
 ·rw [if_neg h] at hb
  subst hb
  have hq : (e == 13) = false := by rw [beq_eq_false_iff_ne]; exact h
  go_enter Tryz.func91, Tryz.ntmps91
  go_wp2_with fail
  go_ret
  exact ⟨by first | rfl | simp, rfl⟩
def C.dropF (c : C) (l : Int) : C × Int :=
 if c.atF l ≠ 0 then (c, c.atF l) else ({ c with m := (Fm.leaveF c.m (c.table.getD l.toNat 0)).1, table := c.table.set l.toNat (-1) }, 0)
def C.readF (c : C) (n : Nat) (l : Int) : List UInt8 × Int :=
 if c.atF l ≠ 0 then ([], c.atF l)
 else if (preadF c.d n (c.table.getD l.toNat 0)).2 ≠ 0 then ([], badF (preadF c.d n (c.table.getD l.toNat 0)).2)
 else ((preadF c.d n (c.table.getD l.toNat 0)).1.s, 0)
theorem atF_ok {c : C} {l : Int} (h : c.atF l = 0) : c.broken = false ∧ 0 ≤ l ∧ l < c.table.length ∧ 0 ≤ c.table.getD l.toNat 0 := by
 unfold C.atF at h
 split at h
 ·simp at h
 ·rename_i hb
  split at h
  ·rename_i hh
   unfold C.hasF at hh
   simp only [Bool.and_eq_true, decide_eq_true_eq] at hh
   exact ⟨by simpa using hb, hh.1.1, hh.1.2, hh.2⟩
  ·simp at h
set_option maxRecDepth 100000 in
set_option maxHeartbeats 2000000 in
theorem drop_any {w : World} {x : X} {n : Nat} {c : C} (h : At w x n c) (l : Int) :
  Calls Tryz.prog 33 #[sp x.b, .int .i64 l] w fun e w' => e = .returned (.int .i64 (c.dropF l).2) ∧ At w' x n (c.dropF l).1 ∧ Only x.fp w w' := by
 have KA := at_any h l
 have HH := Lib.hid h
 obtain ⟨R, hR⟩ : ∃ R, c.dropF l = R := ⟨_, rfl⟩
 rw [hR]
 unfold C.dropF at hR
 by_cases h1 : c.atF l = 0
 ·rw [if_neg (by simpa using h1)] at hR
  obtain ⟨_, h2, h3, h4⟩ := atF_ok h1
  rw [h1] at KA
  obtain ⟨k, rfl⟩ := Int.eq_ofNat_of_zero_le h2
  have hk : k < c.table.length := by omega
  rw [show ((k : Nat) : Int).toNat = k from by omega] at hR h4
  obtain ⟨g, cp, hv, ck⟩ := h.tk k hk
  have f1 := h.f1
  have f2 := h.f2
  rw [hv] at f2
  have KL := Fm.leave_any h.hm.drew (c.table.getD k 0)
  have HM := Lib.hid (fun (w' : World) (m' : List Int) (mm : Fm.MapAt w' x.mb x.mg m') (ow : Only [x.mg] w.drew w') => At.map h.drew mm ow)
  have hg : g ∈ ownS x.tv := by rw [hv]; simp [ownS]; have := (h.ht.val); obtain ⟨A, cc, e1, e2⟩ := this; rw [hv] at e1; injection e1 with _ _ e3; omega
  have HP := Lib.hid (show ∀ w', Only [x.mg] w.drew w' → (w'.cell? ⟨x.b, 1, none⟩ = some (Fm.mp x.mb) ∧ w'.cell? ⟨x.b, 2, none⟩ = some (.slice (some ⟨g, 0, none⟩) c.table.length cp) ∧ w'.cell? ⟨g, k, none⟩ = some (.int .i64 (c.table.getD k 0))) from fun w' ho => by
   have B := h.hb.drew.only ho (fun hm => by simp at hm; exact h.hb.ne_ h.hm.hg (by decide) hm)
   have T := h.ht.drew.only ho (fun y hy hm => by simp at hm; subst hm; exact h.n1 hy)
   obtain ⟨g', cp', rest, hv', BB, _, _⟩ := T.form (by omega)
   rw [hv] at hv'
   injection hv' with e1 e2 e3
   injection e1 with e1
   injection e1 with e1
   subst e1
   refine ⟨B.cell_some (i := 1) rfl, ?_, BB.cell_some (by rw [List.getElem?_toArray, List.getElem?_append_left (by simpa using hk), nvs'_get _ _ hk])⟩
   rw [← hv]; exact B.cell_some (i := 2) rfl)
  have HK := Lib.hid (show w.drew.cell? ⟨x.b, 1, none⟩ = some (Fm.mp x.mb) ∧ w.drew.cell? ⟨x.b, 2, none⟩ = some (.slice (some ⟨g, 0, none⟩) c.table.length cp) ∧ w.drew.cell? ⟨g, k, none⟩ = some (.int .i64 (c.table.getD k 0)) from ⟨f1, f2, ck⟩)
  have HKL := Lib.hid hk
  have HX := Lib.hid (show ∀ w' m', At w' x n { c with m := m' } → w'.cell? ⟨g, k, none⟩ = some (.int .i64 (c.table.getD k 0)) ∧ w'.frozen? ⟨g, k, none⟩ = false ∧ At (w'.setCell ⟨g, k, none⟩ (.int .i64 (-1))) x n { c with m := m', table := c.table.set k (-1) } ∧ Only x.fp w' (w'.setCell ⟨g, k, none⟩ (.int .i64 (-1))) from fun w' m' hh => by
   obtain ⟨g', cp', hv', ck', z', A', o'⟩ := hh.setT k hk (-1)
   rw [hv] at hv'
   injection hv' with e1 e2 e3
   injection e1 with e1
   injection e1 with e1
   subst e1
   exact ⟨ck', z', A', o'⟩)
  have hkI : (k : Int) < (c.table.length : Int) := by omega
  subst hR
  generalize c.table.getD k 0 = pid at *
  generalize (Fm.leaveF c.m pid).2 = le at *
  generalize (Fm.leaveF c.m pid).1 = m2 at *
  have HQ := Lib.hid hv
  clear h h1 f1 f2 ck hv hg h4
  generalize c.table.length = tn at *
  have KA := Lib.hid KA
  unfold sp Fm.mp at *
  have KL := Lib.hid KL
  go_enter Tryz.func33, Tryz.ntmps33
  go_wp2_with fail
  refine KA.out.mono ?_
  rintro e w1 ⟨rfl, rfl⟩
  go_wp2_with fail
  refine wp_region_held_drew (S := fun W' => W'.cell? ⟨x.b, 1, none⟩ = some (.pointer (some ⟨x.mb, 0, none⟩)) ∧ W'.cell? ⟨x.b, 2, none⟩ = some (.slice (some ⟨g, 0, none⟩) tn cp) ∧ W'.cell? ⟨g, k, none⟩ = some (.int .i64 pid)) (by kernel_rfl) (HK.out) (fun hHeld => ?_)
  refine zpl [(0,12),(1,13),(2,14),(3,15),(4,16),(5,17),(6,18),(7,19),(8,20),(9,21),(10,22)] ?_
  iterate 11 (refine ztp (v := ?_) rfl (by kernel_rfl) (fun _ _ _ h => h) (by assumption) ?_ ?_; rotate_left; (·intro w hS; (try dsimp only at hS); go_simp; try with_reducible rfl); try simp only [Act.put, pa, pb, pc])
  refine zpe ?_
  refine wpAnyH_ready (rs := [11]) (by kernel_rfl) (by simp) ?_
  refine AllReadyH.cons (o := ⟨some 23, _, _, _, _, _⟩) rfl (fun K hK => ?_) AllReadyH.nil
  go_simp
  go_at_call 101
  refine KL.out.mono ?_
  rintro e w1 ⟨rfl, mm, ow⟩
  have A1 := Lib.hid (HM.out _ _ mm ow)
  have OW := Lib.hid ow
  have HX1 := Lib.hid (HX.out _ _ A1.out)
  have f2x := (HP.out _ ow).2.1
  have ckx := HX1.out.1
  have zkx := HX1.out.2.1
  have OX := Lib.hid (((Only.refl _ w).drew.trans (ow.mono (S' := x.fp) (fun g hg _ => mg_fp x g hg))).trans HX1.out.2.2.2)
  clear mm ow
  go_simp
  refine hK.out _ _ (HP.out _ OW.out) (fun hHeld => ?_)
  try simp only [Act.put, pa, pb, pc]
  refine wpAnyH_done (by kernel_rfl) ?_ _
  go_wp2_with fail
  go_ret
  exact ⟨by first | rfl | simp, HX1.out.2.2.1, OX.out⟩
 ·rw [if_pos h1] at hR
  subst hR
  have hq : (c.atF l != 0) = true := by rw [bne_iff_ne]; exact h1
  have KA := Lib.hid KA
  generalize c.atF l = er at *
  clear h h1
  unfold sp at *
  go_enter Tryz.func33, Tryz.ntmps33
  go_wp2_with fail
  refine KA.out.mono ?_
  rintro e w1 ⟨rfl, rfl⟩
  go_wp2_with fail
  go_ret
  exact ⟨by first | rfl | simp, HH.out, Only.refl _ _⟩
end Go.Proofs.YtbelcgjbhpjnpaaGreat.Sh

/- shadow by its contracts: Read, Count. -/
namespace Go.Proofs.YtbelcgjbhpjnpaaGreat.Sh
open Go.RowKit Pk Dk Pg
attribute [local go_sem ↓] Go.wp_at_zero Go.wp_at_succ
set_option maxRecDepth 100000 in
set_option maxHeartbeats 4000000 in
theorem read_any {w : World} {x : X} {n : Nat} {c : C} (h : At w x n c) (l : Int) :
  Calls Tryz.prog 29 #[sp x.b, .int .i64 l] w fun e w' => e = .returned (.tuple #[.string ⟨(c.readF n l).1.toArray⟩, .int .i64 (c.readF n l).2]) ∧ Below w.heap.size w w' := by
 have KA := at_any h l
 obtain ⟨R, hR⟩ : ∃ R, c.readF n l = R := ⟨_, rfl⟩
 rw [hR]
 unfold C.readF at hR
 by_cases h1 : c.atF l = 0
 ·rw [if_neg (by simpa using h1)] at hR
  obtain ⟨_, h2, h3, h4⟩ := atF_ok h1
  rw [h1] at KA
  obtain ⟨k, rfl⟩ := Int.eq_ofNat_of_zero_le h2
  have hk : k < c.table.length := by omega
  rw [show ((k : Nat) : Int).toNat = k from by omega] at hR h4
  obtain ⟨g, cp, hv, ck⟩ := h.tk k hk
  have hkI : (k : Int) < (c.table.length : Int) := by omega
  have HK := Lib.hid (show ∀ W', Below w.heap.size w W' → (W'.cell? ⟨x.b, 0, none⟩ = some (.pointer (some ⟨x.L.b, 0, none⟩)) ∧ W'.cell? ⟨x.b, 2, none⟩ = some (.slice (some ⟨g, 0, none⟩) c.table.length cp) ∧ W'.cell? ⟨g, k, none⟩ = some (.int .i64 (c.table.getD k 0))) from fun W' hb => by
   have h' := h.below hb
   obtain ⟨g', cp', hv', ck'⟩ := h'.tk k hk
   have e := hv
   rw [hv'] at e
   injection e with e1 e2 e3
   injection e1 with e1
   injection e1 with e1
   subst e1
   exact ⟨h'.f0, by rw [← hv]; exact h'.f2, ck'⟩)
  have OD := Lib.hid (show Below w.heap.size w w.drew from (Below.refl _ _).drew)
  have KR := fun (W : World) (hb : Below w.heap.size w W) => pread_any (h.hd.below hb) (c.table.getD k 0)
  obtain ⟨P, hP⟩ : ∃ P, preadF c.d n (c.table.getD k 0) = P := ⟨_, rfl⟩
  rw [hP] at KR hR
  obtain ⟨⟨rid, rep, rkd, rs⟩, er⟩ := P
  have KB := Lib.hid (fun w => bad_any er w)
  unfold PG.val pageV at KR
  dsimp only at KR hR
  generalize c.table.getD k 0 = pid at *
  generalize c.table.length = tn at *
  unfold dp at KR
  have KR := Lib.hid KR
  have KA := Lib.hid KA
  clear h h1 hv hP h4 ck
  unfold sp at *
  by_cases h5 : er = 0
  ·rw [if_neg (by simpa using h5)] at hR
   subst hR h5
   go_enter Tryz.func29, Tryz.ntmps29
   go_wp2_with fail
   refine KA.out.mono ?_
   rintro e w1 ⟨rfl, rfl⟩
   go_wp2_with fail
   refine wp_region_held_drew (S := fun W' => W'.cell? ⟨x.b, 0, none⟩ = some (.pointer (some ⟨x.L.b, 0, none⟩)) ∧ W'.cell? ⟨x.b, 2, none⟩ = some (.slice (some ⟨g, 0, none⟩) tn cp) ∧ W'.cell? ⟨g, k, none⟩ = some (.int .i64 pid)) (by kernel_rfl) (HK.out _ OD.out) (fun hHeld => ?_)
   refine zpl [(0,16),(1,17),(2,18),(3,19),(4,20),(5,21),(6,22),(7,23),(8,24),(9,25),(10,26)] ?_
   iterate 11 (refine ztp (v := ?_) rfl (by kernel_rfl) (fun _ _ _ h => h) (by assumption) ?_ ?_; rotate_left; (·intro w hS; (try dsimp only at hS); go_simp; try with_reducible rfl); try simp only [Act.put, pa, pb, pc])
   refine zpe ?_
   refine wpAnyH_ready (rs := [11, 15]) (by kernel_rfl) (by simp) ?_
   refine AllReadyH.cons (o := ⟨some 27, _, _, _, _, _⟩) rfl (fun K hK => ?_) (AllReadyH.cons (o := ⟨some 7, _, _, _, _, _⟩) rfl (fun K hK => ?_) AllReadyH.nil)
   ·skip
    go_simp
    go_at_call 90
    refine (KR.out _ OD.out).mono ?_
    rintro e v1 ⟨rfl, hv1⟩
    have P1 := Lib.hid (bstep OD.out hv1)
    clear hv1
    go_simp
    refine hK.out _ _ (HK.out _ P1.out) (fun hHeld => ?_)
    try simp only [Act.put, pa, pb, pc]
    refine zpl [(12,15),(13,28),(14,29)] ?_
    iterate 3 (refine ztp (v := ?_) rfl (by kernel_rfl) (fun _ _ _ h => h) (by assumption) ?_ ?_; rotate_left; (·intro w hS; (try dsimp only at hS); go_simp; try with_reducible rfl); try simp only [Act.put, pa, pb, pc])
    refine zpe ?_
    refine wpAnyH_ready (rs := [15]) (by kernel_rfl) (by simp) ?_
    refine AllReadyH.cons (o := ⟨some 7, _, _, _, _, _⟩) rfl (fun K hK => ?_) AllReadyH.nil
    go_simp
    have P2 := Lib.hid (belowAlloc P1.out (.cells zeroC 55))
    refine hK.out _ _ (HK.out _ P2.out) (fun hHeld => ?_)
    try simp only [Act.put, pa, pb, pc]
    refine wpAnyH_ready (rs := [16]) (by kernel_rfl) (by simp) ?_
    refine AllReadyH.cons (o := ⟨none, _, _, _, _, _⟩) rfl (fun K hK => ?_) AllReadyH.nil
    go_simp
    have P3 := Lib.hid (belowAlloc P1.out (.cells #[.int .i64 rid, .int .i64 rep, .int .i64 rkd, .string ⟨rs.toArray⟩] 55))
    have BX := Lib.hid (Blk.new v1 55 #[.int .i64 rid, .int .i64 rep, .int .i64 rkd, .string ⟨rs.toArray⟩])
    refine hK.out _ _ (HK.out _ P3.out) (fun hHeld => ?_)
    try simp only [Act.put, pa, pb, pc]
    refine zpl [(17,8)] ?_
    iterate 1 (refine ztp (v := ?_) rfl (by kernel_rfl) (fun _ _ _ h => h) (by assumption) ?_ ?_; rotate_left; (·intro w hS; (try dsimp only at hS); go_simp; try with_reducible rfl); try simp only [Act.put, pa, pb, pc])
    refine zpe ?_
    refine wpAnyH_done (by kernel_rfl) ?_ _
    have y3 := BX.out.cell_some (i := 3) rfl
    go_wp2_with fail
    go_ret2
    exact ⟨by first | rfl | simp, P3.out⟩
   ·skip
    go_simp
    have P1 := Lib.hid (belowAlloc OD.out (.cells zeroC 55))
    have BX0 := Lib.hid (show Blk (w.drew.alloc (.cells zeroC 55)) w.heap.size 55 zeroC from Blk.new w.drew 55 zeroC)
    refine hK.out _ _ (HK.out _ P1.out) (fun hHeld => ?_)
    try simp only [Act.put, pa, pb, pc]
    refine wpAnyH_ready (rs := [11]) (by kernel_rfl) (by simp) ?_
    refine AllReadyH.cons (o := ⟨some 27, _, _, _, _, _⟩) rfl (fun K hK => ?_) AllReadyH.nil
    go_simp
    go_at_call 90
    refine (KR.out _ P1.out).mono ?_
    rintro e v1 ⟨rfl, hv1⟩
    have P2 := Lib.hid (bstep P1.out hv1)
    have BX1 := Lib.hid (BX0.out.below hv1 BX0.out.lt)
    clear hv1
    have z0 := BX1.out.frozen 0 (by simp)
    have z1 := BX1.out.frozen 1 (by simp)
    have z2 := BX1.out.frozen 2 (by simp)
    have z3 := BX1.out.frozen 3 (by simp)
    have c0 := BX1.out.cell_some (i := 0) rfl
    have c1 := BX1.out.cell_some (i := 1) rfl
    have c2 := BX1.out.cell_some (i := 2) rfl
    have c3 := BX1.out.cell_some (i := 3) rfl
    go_simp
    refine hK.out _ _ (HK.out _ P2.out) (fun hHeld => ?_)
    try simp only [Act.put, pa, pb, pc]
    refine zpl [(12,15),(13,28),(14,29)] ?_
    iterate 3 (refine ztp (v := ?_) rfl (by kernel_rfl) (fun _ _ _ h => h) (by assumption) ?_ ?_; rotate_left; (·intro w hS; (try dsimp only at hS); go_simp; try with_reducible rfl); try simp only [Act.put, pa, pb, pc])
    refine zpe ?_
    refine wpAnyH_ready (rs := [16]) (by kernel_rfl) (by simp) ?_
    refine AllReadyH.cons (o := ⟨none, _, _, _, _, _⟩) rfl (fun K hK => ?_) AllReadyH.nil
    go_simp
    have P3 := Lib.hid (storeP_below P2.out (Nat.le_refl _) rid rep rkd ⟨rs.toArray⟩)
    have BX := Lib.hid (storeP BX1.out rfl rid rep rkd ⟨rs.toArray⟩)
    refine hK.out _ _ (HK.out _ P3.out) (fun hHeld => ?_)
    try simp only [Act.put, pa, pb, pc]
    refine zpl [(17,8)] ?_
    iterate 1 (refine ztp (v := ?_) rfl (by kernel_rfl) (fun _ _ _ h => h) (by assumption) ?_ ?_; rotate_left; (·intro w hS; (try dsimp only at hS); go_simp; try with_reducible rfl); try simp only [Act.put, pa, pb, pc])
    refine zpe ?_
    refine wpAnyH_done (by kernel_rfl) ?_ _
    have y3 := BX.out.cell_some (i := 3) rfl
    go_wp2_with fail
    go_ret2
    exact ⟨by first | rfl | simp, P3.out⟩
  ·rw [if_pos h5] at hR
   have hq : (er != 0) = true := by rw [bne_iff_ne]; exact h5
   subst hR
   clear h5
   generalize badF er = be at *
   go_enter Tryz.func29, Tryz.ntmps29
   go_wp2_with fail
   refine KA.out.mono ?_
   rintro e w1 ⟨rfl, rfl⟩
   go_wp2_with fail
   refine wp_region_held_drew (S := fun W' => W'.cell? ⟨x.b, 0, none⟩ = some (.pointer (some ⟨x.L.b, 0, none⟩)) ∧ W'.cell? ⟨x.b, 2, none⟩ = some (.slice (some ⟨g, 0, none⟩) tn cp) ∧ W'.cell? ⟨g, k, none⟩ = some (.int .i64 pid)) (by kernel_rfl) (HK.out _ OD.out) (fun hHeld => ?_)
   refine zpl [(0,16),(1,17),(2,18),(3,19),(4,20),(5,21),(6,22),(7,23),(8,24),(9,25),(10,26)] ?_
   iterate 11 (refine ztp (v := ?_) rfl (by kernel_rfl) (fun _ _ _ h => h) (by assumption) ?_ ?_; rotate_left; (·intro w hS; (try dsimp only at hS); go_simp; try with_reducible rfl); try simp only [Act.put, pa, pb, pc])
   refine zpe ?_
   refine wpAnyH_ready (rs := [11, 15]) (by kernel_rfl) (by simp) ?_
   refine AllReadyH.cons (o := ⟨some 27, _, _, _, _, _⟩) rfl (fun K hK => ?_) (AllReadyH.cons (o := ⟨some 7, _, _, _, _, _⟩) rfl (fun K hK => ?_) AllReadyH.nil)
   ·skip
    go_simp
    go_at_call 90
    refine (KR.out _ OD.out).mono ?_
    rintro e v1 ⟨rfl, hv1⟩
    have P1 := Lib.hid (bstep OD.out hv1)
    clear hv1
    go_simp
    refine hK.out _ _ (HK.out _ P1.out) (fun hHeld => ?_)
    try simp only [Act.put, pa, pb, pc]
    refine zpl [(12,15),(13,28),(14,29)] ?_
    iterate 3 (refine ztp (v := ?_) rfl (by kernel_rfl) (fun _ _ _ h => h) (by assumption) ?_ ?_; rotate_left; (·intro w hS; (try dsimp only at hS); go_simp; try with_reducible rfl); try simp only [Act.put, pa, pb, pc])
    refine zpe ?_
    refine wpAnyH_ready (rs := [15]) (by kernel_rfl) (by simp) ?_
    refine AllReadyH.cons (o := ⟨some 7, _, _, _, _, _⟩) rfl (fun K hK => ?_) AllReadyH.nil
    go_simp
    have P2 := Lib.hid (belowAlloc P1.out (.cells zeroC 55))
    refine hK.out _ _ (HK.out _ P2.out) (fun hHeld => ?_)
    try simp only [Act.put, pa, pb, pc]
    refine wpAnyH_ready (rs := [16]) (by kernel_rfl) (by simp) ?_
    refine AllReadyH.cons (o := ⟨none, _, _, _, _, _⟩) rfl (fun K hK => ?_) AllReadyH.nil
    go_simp
    have P3 := Lib.hid (belowAlloc P1.out (.cells #[.int .i64 rid, .int .i64 rep, .int .i64 rkd, .string ⟨rs.toArray⟩] 55))
    have BX := Lib.hid (Blk.new v1 55 #[.int .i64 rid, .int .i64 rep, .int .i64 rkd, .string ⟨rs.toArray⟩])
    refine hK.out _ _ (HK.out _ P3.out) (fun hHeld => ?_)
    try simp only [Act.put, pa, pb, pc]
    refine zpl [(17,8)] ?_
    iterate 1 (refine ztp (v := ?_) rfl (by kernel_rfl) (fun _ _ _ h => h) (by assumption) ?_ ?_; rotate_left; (·intro w hS; (try dsimp only at hS); go_simp; try with_reducible rfl); try simp only [Act.put, pa, pb, pc])
    refine zpe ?_
    refine wpAnyH_done (by kernel_rfl) ?_ _
    go_wp2_with fail
    refine (KB.out _).mono ?_
    rintro e wz ⟨rfl, rfl⟩
    go_wp2_with fail
    go_ret2
    exact ⟨by first | rfl | simp, P3.out⟩
   ·skip
    go_simp
    have P1 := Lib.hid (belowAlloc OD.out (.cells zeroC 55))
    have BX0 := Lib.hid (show Blk (w.drew.alloc (.cells zeroC 55)) w.heap.size 55 zeroC from Blk.new w.drew 55 zeroC)
    refine hK.out _ _ (HK.out _ P1.out) (fun hHeld => ?_)
    try simp only [Act.put, pa, pb, pc]
    refine wpAnyH_ready (rs := [11]) (by kernel_rfl) (by simp) ?_
    refine AllReadyH.cons (o := ⟨some 27, _, _, _, _, _⟩) rfl (fun K hK => ?_) AllReadyH.nil
    go_simp
    go_at_call 90
    refine (KR.out _ P1.out).mono ?_
    rintro e v1 ⟨rfl, hv1⟩
    have P2 := Lib.hid (bstep P1.out hv1)
    have BX1 := Lib.hid (BX0.out.below hv1 BX0.out.lt)
    clear hv1
    have z0 := BX1.out.frozen 0 (by simp)
    have z1 := BX1.out.frozen 1 (by simp)
    have z2 := BX1.out.frozen 2 (by simp)
    have z3 := BX1.out.frozen 3 (by simp)
    have c0 := BX1.out.cell_some (i := 0) rfl
    have c1 := BX1.out.cell_some (i := 1) rfl
    have c2 := BX1.out.cell_some (i := 2) rfl
    have c3 := BX1.out.cell_some (i := 3) rfl
    go_simp
    refine hK.out _ _ (HK.out _ P2.out) (fun hHeld => ?_)
    try simp only [Act.put, pa, pb, pc]
    refine zpl [(12,15),(13,28),(14,29)] ?_
    iterate 3 (refine ztp (v := ?_) rfl (by kernel_rfl) (fun _ _ _ h => h) (by assumption) ?_ ?_; rotate_left; (·intro w hS; (try dsimp only at hS); go_simp; try with_reducible rfl); try simp only [Act.put, pa, pb, pc])
    refine zpe ?_
    refine wpAnyH_ready (rs := [16]) (by kernel_rfl) (by simp) ?_
    refine AllReadyH.cons (o := ⟨none, _, _, _, _, _⟩) rfl (fun K hK => ?_) AllReadyH.nil
    go_simp
    have P3 := Lib.hid (storeP_below P2.out (Nat.le_refl _) rid rep rkd ⟨rs.toArray⟩)
    have BX := Lib.hid (storeP BX1.out rfl rid rep rkd ⟨rs.toArray⟩)
    refine hK.out _ _ (HK.out _ P3.out) (fun hHeld => ?_)
    try simp only [Act.put, pa, pb, pc]
    refine zpl [(17,8)] ?_
    iterate 1 (refine ztp (v := ?_) rfl (by kernel_rfl) (fun _ _ _ h => h) (by assumption) ?_ ?_; rotate_left; (·intro w hS; (try dsimp only at hS); go_simp; try with_reducible rfl); try simp only [Act.put, pa, pb, pc])
    refine zpe ?_
    refine wpAnyH_done (by kernel_rfl) ?_ _
    go_wp2_with fail
    refine (KB.out _).mono ?_
    rintro e wz ⟨rfl, rfl⟩
    go_wp2_with fail
    go_ret2
    exact ⟨by first | rfl | simp, P3.out⟩
 ·rw [if_pos h1] at hR
  subst hR
  have hq : (c.atF l != 0) = true := by rw [bne_iff_ne]; exact h1
  have KA := Lib.hid KA
  generalize c.atF l = er at *
  clear h h1
  unfold sp at *
  go_enter Tryz.func29, Tryz.ntmps29
  go_wp2_with fail
  refine KA.out.mono ?_
  rintro e w1 ⟨rfl, rfl⟩
  go_wp2_with fail
  go_ret2
  exact ⟨by first | rfl | simp, Below.refl _ _⟩
set_option maxHeartbeats 2000000 in
theorem scount_any {w : World} {x : X} {n : Nat} {c : C} (h : At w x n c) :
  Calls Tryz.prog 23 #[sp x.b] w fun e w' => e = .returned (.tuple #[.int .i64 (Fm.listF c.m 0).length, .int .i64 (Fm.listF c.m 1).length, .int .i64 (Fm.listF c.m 2).length, .int .i64 (Fm.listF c.m 3).length]) ∧ Below w.heap.size w w' := by
 have K := Lib.hid (Fm.count_any h.hm)
 have f1 := h.f1
 generalize (Fm.listF c.m 0).length = n0 at *
 generalize (Fm.listF c.m 1).length = n1 at *
 generalize (Fm.listF c.m 2).length = n2 at *
 generalize (Fm.listF c.m 3).length = n3 at *
 clear h
 unfold sp Fm.mp at *
 go_enter Tryz.func23, Tryz.ntmps23
 go_wp2_with fail
 refine K.out.mono ?_
 rintro e w1 ⟨rfl, hb⟩
 have O1 := Lib.hid hb
 clear hb
 go_wp2_with fail
 refine bodyPost_ret (v := .tuple #[.int .i64 n0, .int .i64 n1, .int .i64 n2, .int .i64 n3]) ?_ rfl ⟨rfl, O1.out⟩
 simp [results, Tryz.results23, go_sem]
end Go.Proofs.YtbelcgjbhpjnpaaGreat.Sh

/- shadow by its contracts: Pages. -/
namespace Go.Proofs.YtbelcgjbhpjnpaaGreat.Sh
open Go.RowKit Pk Dk Pg
attribute [local go_sem ↓] Go.wp_at_zero Go.wp_at_succ exec_app
/-- the pages that are there, among the first k -/
def pgs (t : List Int) : Nat → List Int
 | 0 => []
 | k + 1 => pgs t k ++ if 0 ≤ t.getD k 0 then [(k : Int)] else []
theorem pgs_le (t : List Int) : ∀ k, (pgs t k).length ≤ k
 | 0 => Nat.le_refl _
 | k + 1 => by
  have := pgs_le t k
  unfold pgs
  rw [List.length_append]
  split <;> simp <;> omega
set_option maxRecDepth 100000 in
set_option maxHeartbeats 2000000 in
theorem pages_list {w : World} {x : X} {n : Nat} {c : C} (h : At w x n c) :
  Calls Tryz.prog 36 #[sp x.b] w fun e w' => ∃ A cc, e = .returned (.slice A (pgs c.table c.table.length).length cc) ∧ Slc w' 3 1 (.slice A (pgs c.table c.table.length).length cc) (pgs c.table c.table.length).length (nvs' (pgs c.table c.table.length)) ∧ Below w.heap.size w w' := by
 have f2 := h.f2
 have tl := h.tl
 obtain ⟨TA, tc, htv, htc⟩ := h.ht.val
 rw [htv] at f2
 have HT := Lib.hid (fun (k : Nat) (hk : k < c.table.length) (W : World) (hb : Below w.heap.size w W) => (h.below hb).tk k hk)
 have HV := Lib.hid htv
 obtain ⟨t, ht⟩ : ∃ t, c.table = t := ⟨_, rfl⟩
 rw [ht] at f2 tl htc HT HV ⊢
 obtain ⟨tn, htn⟩ : ∃ tn, t.length = tn := ⟨_, rfl⟩
 rw [htn] at f2 tl htc HT HV ⊢
 clear h htv ht htn
 unfold sp at *
 go_enter Tryz.func36, Tryz.ntmps36
 go_wp2_with fail
 go_loopw [3, 14] (fun bv iv wr => ∃ k : Nat, k ≤ tn ∧ iv = .int .i64 k ∧ Slc wr 3 1 bv (pgs t k).length (nvs' (pgs t k)) ∧ Hid (Below w.heap.size w wr) ∧ Hid (∀ g ∈ ownB bv, w.heap.size ≤ g)) (fun _ iv _ => tn - (intOf iv).toNat)
 case atStart => exact ⟨0, Nat.zero_le _, rfl, Slc.nil _ _ _, Lib.hid (Below.refl _ _), Lib.hid (by simp [ownB])⟩
 case round =>
  obtain ⟨k, hk, rfl, S, O, F⟩ := hrel
  have hle := pgs_le t k
  obtain ⟨VA, vc, rfl⟩ := slc_val S
  by_cases h' : k < tn
  ·have hkI : (k : Int) < (tn : Int) := by omega
   obtain ⟨g, cp, hv, ck⟩ := HT.out k h' wr O.out
   rw [HV.out] at hv
   injection hv with e1 e2 e3
   subst e1 e3
   obtain ⟨u, hu⟩ : ∃ u, t.getD k 0 = u := ⟨_, rfl⟩
   rw [hu] at ck
   by_cases hpos : 0 ≤ u
   ·have hnext : pgs t (k + 1) = pgs t k ++ [(k : Int)] := by
     show pgs t k ++ _ = _
     rw [hu, if_pos hpos]
    obtain ⟨v', w2, ea, S2, ow, fr⟩ := append_one (P := Tryz.prog) S 52 52 (.int .i64 0) 8 Tryz.underlying52 info_int2 rfl (.int .i64 (k : Int)) rfl (by unfold maxLen; omega) (by omega)
    obtain ⟨V2, vc2, rfl⟩ := slc_val S2
    have hlen : (pgs t (k + 1)).length = (pgs t k).length + 1 := by rw [hnext]; simp
    have EA := Lib.hid ea
    have SX := Lib.hid (show Slc w2 3 1 (.slice V2 ((pgs t k).length + 1) vc2) (pgs t (k + 1)).length (nvs' (pgs t (k + 1))) from by
     rw [hlen, hnext, nvs'_append]; exact S2)
    have OX := Lib.hid (O.out.trans (ow.below_of O.out.size F.out))
    have FX := Lib.hid (show ∀ g' ∈ ownB (.slice V2 ((pgs t k).length + 1) vc2), w.heap.size ≤ g' from fun g' hg => (fr g' hg).elim (F.out g') (fun h => Nat.le_trans O.out.size h))
    clear ea S2 ow fr S hnext hlen hu
    generalize (pgs t k).length = pl at *
    go_wp2_with fail
    rw [EA.out]
    go_wp2_with fail
    go_roundw
    case rel => exact ⟨k + 1, by omega, by go_num, SX.out, OX, FX⟩
    case measure => simp [intOf]; omega
   ·have hnext : pgs t (k + 1) = pgs t k := by
     show pgs t k ++ _ = _
     rw [hu, if_neg hpos, List.append_nil]
    have SX := Lib.hid S
    have HN := Lib.hid hnext
    clear S hnext hu
    go_wp2_with fail
    go_roundw
    case rel => exact ⟨k + 1, by omega, by go_num, by rw [HN.out]; exact SX.out, O, F⟩
    case measure => simp [intOf]; omega
  ·obtain rfl : k = tn := by omega
   have SX := Lib.hid S
   clear S
   go_wp2_with fail
   go_ret
   exact ⟨_, _, by first | rfl | simp, SX.out, O.out⟩
end Go.Proofs.YtbelcgjbhpjnpaaGreat.Sh

/- shadow by its contracts: Format. -/
namespace Go.Proofs.YtbelcgjbhpjnpaaGreat.Sh
open Go.RowKit Pk Dk Pg
attribute [local go_sem ↓] Go.wp_at_zero Go.wp_at_succ
/-- the first root's bytes -/
def root1 : List UInt8 := Rt.rootL 1 0 []
/-- a disk that was formatted -/
def formD (d : D) (n : Nat) : D := (((d.writeF n 0 root1).1.writeF n 1 []).1.syncF).1
def formC (d : D) (n : Nat) : C := { d := formD d n, m := List.replicate (pagesF n) 0, table := [], old := [], parts := [], ep := 1, slot := 0, broken := false }
theorem sync_fine {d : D} (hd : d.down = false) (ha : d.armed = 0) : d.syncF.2 = 0 ∧ d.syncF.1.down = false ∧ d.syncF.1.armed = 0 ∧ d.syncF.1.now = d.now := by
 obtain ⟨c1, c2, c3⟩ := count_quiet d ha
 unfold D.syncF
 rw [if_neg (by simp [hd]), if_pos c1]
 exact ⟨rfl, c3.trans hd, c2, count_now d⟩
theorem right1 : Rt.rightR 1 ((0 : Nat) : Int) (Rt.natI []) := by
 refine ⟨by omega, by omega, by omega, by omega, by decide, ?_⟩
 intro i x hx
 simp [Rt.natI] at hx
set_option maxRecDepth 100000 in
set_option maxHeartbeats 4000000 in
theorem format_any {w : World} {L : Dk.Loc} {n : Nat} {d : D} (h : DiskAt w L n d) (hp : 1 ≤ pagesF n) (hd : d.down = false) (ha : d.armed = 0) (hc : d.calls ≤ 1000) :
  Calls Tryz.prog 31 #[dp L.b] w fun e w' => ∃ x, x.L = L ∧ e = .returned (.tuple #[sp x.b, .int .i64 0]) ∧ At w' x n (formC d n) ∧ Only L.fp w w' ∧ ∀ g ∈ x.fp, g ∈ L.fp ∨ w.heap.size ≤ g := by
 have hn := h.ok.small
 have hn2 : 6 ≤ n := by unfold pagesF manyF at hp; omega
 have hc0 := h.ok.calls
 have hpn : pagesF n ≤ 1024 := by unfold pagesF; omega
 have w1f := write_fine (n := n) (k := 0) hd ha (by omega) root1
 have w2f := write_fine (n := n) (k := 1) w1f.2.1 w1f.2.2 (by omega) []
 have sf := sync_fine w2f.2.1 w2f.2.2
 have b1 := wwrite_bd d n ((0 : Nat) : Int) root1 (by omega)
 have b2 := wwrite_bd (d.writeF n ((0 : Nat) : Int) root1).1 n ((1 : Nat) : Int) [] b1.2
 have KP := Lib.hid (fun w' (hb : Below w.heap.size w w') => pages_any (h.below hb))
 have KN := Lib.hid (fun w => Fm.new_yes (pagesF n) w hpn)
 have KR := Lib.hid (fun w => Rt.rput_yes (w := w) 1 0 none 0 0 [] ⟨rfl, fun k x hx => by simp [Rt.natI] at hx⟩ (Nat.le_refl _) right1)
 have HD := Lib.hid h
 have HLT := Lib.hid (fun g hg => h.lt g hg)
 have O1 := Lib.hid (belowAlloc (Below.refl w.heap.size w) (.cells #[dp L.b, .pointer none, .slice none 0 0, .slice none 0 0, .slice none 0 0, .int .i64 1, .int .i64 0, .bool false] 115))
 have B1 := Lib.hid (Blk.new w 115 #[dp L.b, .pointer none, .slice none 0 0, .slice none 0 0, .slice none 0 0, .int .i64 1, .int .i64 0, .bool false])
 have hpz : ((pagesF n : Nat) : Int) ≠ 0 := by omega
 have hpq : (((pagesF n : Nat) : Int) == 0) = false := by rw [beq_eq_false_iff_ne]; exact hpz
 have KP0 := KP.out w (Below.refl _ _)
 have e1 : (⟨root1.toArray⟩ : ByteArray).data.toList = root1 := by simp
 have e2 : (⟨#[]⟩ : ByteArray).data.toList = ([] : List UInt8) := by simp
 have c1 := wwrite_bd d n 0 root1 (by omega)
 have c2 := wwrite_bd (d.writeF n 0 root1).1 n 1 [] c1.2
 have v1 : (d.writeF n 0 root1).2 = 0 := w1f.1
 have v2 : ((d.writeF n 0 root1).1.writeF n 1 []).2 = 0 := w2f.1
 have v3 : ((d.writeF n 0 root1).1.writeF n 1 []).1.syncF.2 = 0 := sf.1
 have KW1 := Lib.hid (fun (W : World) (hW : DiskAt W L n d) => write_any hW 0 ⟨root1.toArray⟩ (by omega) (by omega))
 have KW2 := Lib.hid (fun (W : World) (hW : DiskAt W L n (d.writeF n 0 root1).1) => write_any hW 1 ⟨#[]⟩ (by omega) (by omega))
 have KS := Lib.hid (fun (W : World) (hW : DiskAt W L n ((d.writeF n 0 root1).1.writeF n 1 []).1) => sync_any hW (by omega) (by omega))
 rw [e1, v1] at KW1
 rw [e2, v2] at KW2
 rw [v3] at KS
 have HFD : formD d n = ((d.writeF n 0 root1).1.writeF n 1 []).1.syncF.1 := rfl
 have KR := Lib.hid (show ∀ w : World, Calls Tryz.prog 97 #[.agg #[.int .i64 1, .int .i64 0, .slice none 0 0]] w fun e w' => e = .returned (.tuple #[.string ⟨root1.toArray⟩, .int .i64 0]) ∧ Below w.heap.size w w' from KR.out)
 have hfc : formC d n = { d := formD d n, m := List.replicate (pagesF n) 0, table := [], old := [], parts := [], ep := 1, slot := 0, broken := false } := rfl
 rw [hfc]
 clear hfc
 generalize formD d n = dz at *
 generalize ((d.writeF n 0 root1).1.writeF n 1 []).1.syncF.1 = dy at *
 subst HFD
 generalize ((d.writeF n 0 root1).1.writeF n 1 []).1 = dx at *
 generalize (d.writeF n 0 root1).1 = dw at *
 generalize root1 = rt at *
 clear w1f w2f sf b1 b2 c1 c2 v1 v2 v3 e1 e2
 generalize pagesF n = pn at *
 unfold dp Fm.mp Rt.rootV at *
 have KP0 := Lib.hid KP0
 clear h hpz
 go_enter Tryz.func31, Tryz.ntmps31
 go_wp2_with fail
 refine KP0.out.mono ?_
 rintro e w1 ⟨rfl, rfl⟩
 go_wp2_with fail
 refine (KP.out _ O1.out).mono ?_
 rintro e w1 ⟨rfl, rfl⟩
 go_wp2_with fail
 refine (KN.out _).mono ?_
 rintro e w2 ⟨mb, mg, rfl, mm, hb2, h1, h2⟩
 have B2 := Lib.hid (B1.out.below hb2 B1.out.lt)
 have O2 := Lib.hid (bstep O1.out hb2)
 have O3 := Lib.hid (Below.setCell O2.out (p := ⟨w.heap.size, 1, none⟩) (Nat.le_refl _) (.pointer (some ⟨mb, 0, none⟩)))
 have n1 : w.heap.size ≠ mg := by have := h2; simp only [World.size_alloc] at this; omega
 have n2 : w.heap.size ≠ mb := by have := h1; simp only [World.size_alloc] at this; omega
 have g1 : w.heap.size ≤ mb := by have := h1; simp only [World.size_alloc] at this; omega
 have g2 : w.heap.size ≤ mg := by have := h2; simp only [World.size_alloc] at this; omega
 have M3 := Lib.hid (mm.only (S := [w.heap.size]) ((Only.refl _ w2).setCell (p := ⟨w.heap.size, 1, none⟩) (by simp) (.pointer (some ⟨mb, 0, none⟩))) (by simpa using n2.symm) (by simpa using n1.symm))
 have B3 := Lib.hid (B2.out.set_ 1 (.pointer (some ⟨mb, 0, none⟩)))
 have q0 := B2.out.cell_some (i := 1) rfl
 have q1 := B2.out.frozen 1 (by simp)
 clear hb2 h1 h2 mm
 go_wp2_with fail
 generalize w2.setCell ⟨w.heap.size, 1, none⟩ (.pointer (some ⟨mb, 0, none⟩)) = w3 at *
 clear q0 q1
 refine (KR.out _).mono ?_
 rintro e w4 ⟨rfl, hb4⟩
 have O4 := Lib.hid (bstep O3.out hb4)
 have M4 := Lib.hid (M3.out.below hb4)
 have B4 := Lib.hid (B3.out.below hb4 B3.out.lt)
 have U4 := Lib.hid (belowAlloc (Below.refl w4.heap.size w4) (.cells #[.string ⟨rt.toArray⟩, .string ⟨#[]⟩] 9))
 have T4 := Lib.hid (Blk.new w4 9 #[.string ⟨rt.toArray⟩, .string ⟨#[]⟩])
 have nT : w4.heap.size ∉ L.fp := fun hg => by have := HLT.out _ hg; have := O4.out.size; omega
 have nT := Lib.hid nT
 have H5 := Lib.hid (HD.out.below (bstep O4.out U4.out))
 have t0 := T4.out.cell_some (i := 0) rfl
 clear hb4
 go_wp2_with fail
 refine wp_loop_rounds 3 ?_
 rw [rounds_succ]
 go_wp2_with fail
 refine (KW1.out _ H5.out).mono ?_
 rintro e w6 ⟨rfl, H6, O6⟩
 have T6 := Lib.hid (T4.out.only O6 nT.out)
 have t1 := T6.out.cell_some (i := 1) rfl
 have H6 := Lib.hid H6
 have O6 := Lib.hid O6
 clear t0
 go_wp2_with fail
 rw [rounds_succ]
 go_wp2_with fail
 refine (KW2.out _ H6.out).mono ?_
 rintro e w7 ⟨rfl, H7, O7⟩
 have H7 := Lib.hid H7
 have O7 := Lib.hid O7
 clear t1
 go_wp2_with fail
 rw [rounds_succ]
 go_wp2_with fail
 refine (KS.out _ H7.out).mono ?_
 rintro e w8 ⟨rfl, H8, O8⟩
 have H8 := Lib.hid H8
 have O8 := Lib.hid O8
 go_wp2_with fail
 go_ret2
 have nb : ∀ g, w.heap.size ≤ g → g ∉ L.fp := fun g hg hm => by have := HLT.out _ hm; omega
 have O5 := bstep O4.out U4.out
 have A5 : Only L.fp w _ := Only.of_below O5
 have A8 := ((A5.trans O6.out).trans O7.out).trans O8.out
 have A58 := ((O6.out).trans O7.out).trans O8.out
 refine ⟨⟨w.heap.size, L, mb, mg, .slice none 0 0, .slice none 0 0, .slice none 0 0⟩, rfl, by first | rfl | simp [sp], ⟨?_, H8.out, ?_, Sl.nil _ _, Sl.nil _ _, .inl (Sl.nil _ _), by simp [ownS], by simp [ownS], by simp [ownS], by simp [ownS], by simp [ownS], by simp [ownS], by simp⟩, A8, ?_⟩
 ·exact (((B4.out.below U4.out B4.out.lt).only A58 (nb _ (Nat.le_refl _))))
 ·exact ((M4.out.below U4.out).only A58 (nb _ g1) (nb _ g2))
 ·intro g hg
  simp only [X.fp, List.mem_cons, List.mem_append] at hg
  rcases hg with rfl | rfl | rfl | ((hg | hg) | hg) | hg
  ·exact .inr (Nat.le_refl _)
  ·exact .inr g1
  ·exact .inr g2
  ·exact .inl hg
  ·simp [ownS] at hg
  ·simp [ownS] at hg
  ·simp [ownS] at hg
theorem slc_ne {w : World} {e t : TypeId} {k : Nat} {v : Value} {n b : Nat} {l : List Value} {cs : Array Value} (h : Slc w e k v n l) (B : Blk w b t cs) (hne : t ≠ e) : b ∉ ownB v := by
 rcases h.2 with ⟨rfl, _⟩ | ⟨g, cap, rest, rfl, BB, _⟩
 ·simp [ownB]
 ·simp only [ownB, List.mem_singleton]
  exact B.ne_ BB hne
end Go.Proofs.YtbelcgjbhpjnpaaGreat.Sh
