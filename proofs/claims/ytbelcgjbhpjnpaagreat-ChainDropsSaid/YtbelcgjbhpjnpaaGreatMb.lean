/- the healthy store: a page is written; an abort. -/
import Derived.Test.YtbelcgjbhpjnpaaGreatMa
import Derived.Test.YtbelcgjbhpjnpaaGreatWb
import Derived.Test.YtbelcgjbhpjnpaaGreatTb
import Derived.Test.YtbelcgjbhpjnpaaGreatGb
import Derived.Test.YtbelcgjbhpjnpaaGreatDa
import Derived.Test.YtbelcgjbhpjnpaaGreatRb
set_option linter.all false
set_option linter.unusedVariables false
set_option linter.unusedSimpArgs false
set_option maxRecDepth 100000
namespace Go.Proofs.YtbelcgjbhpjnpaaGreat.Sh
open Go.RowKit Pk Dk Pg
theorem turn_get (a b : Int) (l : List Int) (i : Nat) (hi : i < l.length) : (Fm.turnF a b l).getD i 0 = Fm.turnOne a b (l.getD i 0) := by
 unfold Fm.turnF
 simp only [List.getD, List.getElem?_map, List.getElem?_eq_getElem hi, Option.map_some, Option.getD_some]
theorem abort_good {c : C} {n : Nat} (g : Good c n) : Good c.abortF n ∧ c.abortF.absF n = { c.absF n with now := oldS (c.absF n).old } ∧ c.abortF.d = c.d := by
 have hml : c.abortF.m.length = c.m.length := by unfold C.abortF Fm.turnF; simp
 have hk : ∀ x, kindOf c.abortF x = if x ∈ c.parts then 1 else if x ∈ c.old then 1 else 0 := by
  intro x
  unfold kindOf C.abortF
  by_cases h1 : x ∈ c.parts
  ·simp [h1]
  ·by_cases h2 : x ∈ c.old
   ·simp [h1, h2]
   ·simp [h1, h2]
 refine ⟨⟨g.up, g.arm, g.br, g.ok, hml.trans g.ml, g.ep, g.sl, by rw [hml]; exact g.oi, by rw [hml]; exact g.oi, by rw [hml]; exact g.pi, g.oj, g.oj, g.pj, fun x hx => ⟨(g.dt x hx).2, (g.dt x hx).2⟩, g.pl, fun i x hi _ _ => hi, fun i hi => ?_, fun x hx h0 => ?_, g.ro⟩, ?_, rfl⟩
 ·rw [hml] at hi
  rw [hk, show c.abortF.m = Fm.turnF 1 0 c.m from rfl, turn_get _ _ _ _ hi, g.md i hi]
  unfold kindOf Fm.turnOne
  by_cases h1 : (i : Int) ∈ c.parts
  ·simp [h1]
  ·by_cases h2 : (i : Int) ∈ c.old
   ·by_cases h3 : (i : Int) ∈ c.table <;> simp [h1, h2, h3]
   ·by_cases h3 : (i : Int) ∈ c.table <;> simp [h1, h2, h3]
 ·obtain ⟨q, s, q1, q2, q3, q4⟩ := g.ro x hx h0
  exact ⟨q, s, q1, by show q ≤ c.ep + 1; omega, q3, q4⟩
 ·unfold C.absF
  rw [hml]
  simp only [St.mk.injEq, true_and]
  refine ⟨?_, rfl, rfl⟩
  show c.old.map (C.slotOf c.abortF n) = oldS (c.old.map _)
  unfold oldS
  rw [List.map_map]
  refine List.map_congr_left (fun x hx => ?_)
  unfold C.slotOf
  simp only [Function.comp]
  by_cases h : x < 0
  ·rw [if_pos h, if_pos h]; rfl
  ·rw [if_neg h, if_neg h]
   show some (decide (x ∉ c.old), _) = some (false, _)
   simp [hx]; rfl
/-- the disk behind a page written that is nobody else's -/
theorem page_write {c : C} {n : Nat} (g : Good c n) {k : Nat} (hk : k < c.m.length) (p : List UInt8) (hp : p.length ≤ 232) :
  (pwriteF c.d n k (c.ep + 1) 2 p).2 = 0 ∧ ∀ d', d' = (pwriteF c.d n k (c.ep + 1) 2 p).1 → d'.down = false ∧ d'.armed = 0 ∧ d'.Ok n ∧ d'.calls ≤ c.d.calls + 4 ∧ preadF d' n k = (⟨k, c.ep + 1, 2, padL p 232⟩, 0) ∧
   ∀ x : Int, 0 ≤ x → x < c.m.length → x ≠ k → preadF d' n x = preadF c.d n x := by
 have e := g.ep
 obtain ⟨h1, h2, h3, h4, h5⟩ := write_read g.ok g.up g.arm k (c.ep + 1) 2 p (page_many g hk) (by rw [okP_iff]; omega) hp
 refine ⟨h1, fun d' hd => ?_⟩
 subst hd
 refine ⟨h2, h3, pwrite_okD g.ok _ _ _ _, (pwrite_bd _ _ _ _ _ _ (by rw [g.arm]; omega)).1, h4, fun x hx hx1 hne => ?_⟩
 have := h5 x.toNat (page_many g (by omega)) (by omega)
 rwa [show ((x.toNat : Nat) : Int) = x by omega] at this
theorem fresh_kind {c : C} {n : Nat} (g : Good c n) {x : Nat} (hx : x < c.m.length) (ht : (x : Int) ∈ c.table) : Fm.freshF c.m (x : Int) = decide ((x : Int) ∉ c.old) := by
 unfold Fm.freshF
 rw [show Fm.inF c.m (x : Int) = true from by unfold Fm.inF; simp; omega, show ((x : Nat) : Int).toNat = x by omega, g.md x hx]
 unfold kindOf
 rw [if_neg (fun h => (g.dt _ h).1 ht)]
 by_cases ho : (x : Int) ∈ c.old
 ·simp [ho, ht]
 ·simp [ho, ht]
theorem set_map_ext {α β : Type} (f f' : α → β) (t : List α) (k : Nat) (u : α) (v : β) (hu : f' u = v) (h : ∀ i x, t[i]? = some x → i ≠ k → f' x = f x) : (t.set k u).map f' = (t.map f).set k v := by
 apply List.ext_getElem?
 intro i
 rw [List.getElem?_map, List.getElem?_set, List.getElem?_set, List.getElem?_map, List.length_map]
 by_cases e : k = i
 ·subst e
  rw [if_pos rfl, if_pos rfl]
  by_cases hl : k < t.length
  ·rw [if_pos hl, if_pos hl, Option.map_some, hu]
  ·rw [if_neg hl, if_neg hl]; rfl
 ·rw [if_neg e, if_neg e]
  cases hx : t[i]? with
  | none => rfl
  | some x => rw [Option.map_some, Option.map_some, h i x hx (fun h => e h.symm)]
theorem write_good {c : C} {n : Nat} (g : Good c n) (l : Int) (p : List UInt8) :
  Good (c.writeF n l p).1 n ∧ (c.writeF n l p).1.absF n = ((c.absF n).writeF l p).1 ∧ (c.writeF n l p).2 = ((c.absF n).writeF l p).2 ∧ (c.writeF n l p).1.d.calls ≤ c.d.calls + 4 := by
 obtain ⟨h1, h2⟩ := abs_has g l
 unfold C.writeF St.writeF
 rw [if_neg (by rw [g.br]; simp), atF_good g]
 by_cases hp : 232 < p.length
 ·rw [if_pos hp, if_pos hp]
  exact ⟨g, rfl, rfl, by show c.d.calls ≤ _; omega⟩
 rw [if_neg hp, if_neg hp]
 by_cases hh : c.hasF l = true
 ·obtain ⟨k, x, rfl, hk, hx, e⟩ := h2 hh
  have hxl : x < c.m.length := by omega
  have hxt := List.mem_of_getElem? hk
  have e2 : c.table.getD ((k : Nat) : Int).toNat 0 = (x : Int) := by rw [show ((k : Nat) : Int).toNat = k by omega]; simp [List.getD, hk]
  rw [if_pos hh, if_neg (show ¬ (0 : Int) ≠ 0 by simp), if_neg (show ¬ ¬ ((c.absF n).at ((k : Nat) : Int)).isSome = true by rw [h1.1 hh]; simp), e2, e, show ((k : Nat) : Int).toNat = k by omega]
  have hsl : c.slotOf n (x : Int) = some (decide ((x : Int) ∉ c.old), (preadF c.d n x).1.s) := by unfold C.slotOf; rw [if_neg (by omega)]
  rw [hsl, fresh_kind g hxl hxt]
  have hep := g.ep
  by_cases ho : (x : Int) ∈ c.old
  ·rw [if_neg (show ¬ decide ((x : Int) ∉ c.old) = true by simp [ho])]
   by_cases hf : (c.absF n).free = 0
   ·have hfr : c.freshF n p = (c, 0, 11) := by unfold C.freshF; rw [take_full g hf, if_pos (by simp)]
    rw [hfr]
    dsimp only
    rw [if_pos (show (11 : Int) ≠ 0 by decide), if_pos (show (isFresh (some (decide ((x : Int) ∉ c.old), (preadF c.d n x).1.s)) = false ∧ (c.absF n).free = 0) from ⟨by simp [isFresh, ho], hf⟩)]
    exact ⟨g, rfl, rfl, by show c.d.calls ≤ _; omega⟩
   ·rw [if_neg (show ¬ (isFresh (some (decide ((x : Int) ∉ c.old), (preadF c.d n x).1.s)) = false ∧ (c.absF n).free = 0) from fun h => hf h.2)]
    obtain ⟨j, hj, h0, ht⟩ := take_free g hf
    obtain ⟨z1, z2, z3⟩ := kind0 h0
    obtain ⟨W0, W⟩ := page_write g hj p (by omega)
    have hfr : c.freshF n p = ({ c with m := c.m.set j 2, d := (pwriteF c.d n j (c.ep + 1) 2 p).1 }, (j : Int), 0) := by
     unfold C.freshF
     rw [ht, if_neg (by simp), if_neg (by rw [W0]; simp)]
    rw [hfr]
    dsimp only
    rw [if_neg (show ¬ (0 : Int) ≠ 0 by simp)]
    obtain ⟨w1, w2, w3, w4, w5, w6⟩ := W _ rfl
    generalize (pwriteF c.d n j (c.ep + 1) 2 p).1 = d' at *
    have hjx : j ≠ x := fun e => z3 (by rw [e]; exact hxt)
    have hlv : (Fm.leaveF (c.m.set j 2) (x : Int)).1 = (c.m.set j 2).set x 3 := by
     unfold Fm.leaveF
     rw [show Fm.inF (c.m.set j 2) (x : Int) = true from by unfold Fm.inF; simp; omega, if_pos rfl, show ((x : Nat) : Int).toNat = x by omega, getD_set' _ _ _ _ hxl, if_neg hjx, g.md x hxl]
     unfold kindOf
     rw [if_neg (fun h => (g.dt _ h).1 hxt), if_pos ho, if_pos hxt]
     simp
    dsimp only
    rw [hlv]
    have mt : ∀ y : Int, 0 ≤ y → (y ∈ c.table.set k (j : Int) ↔ y = j ∨ (y ∈ c.table ∧ y ≠ x)) := by
     intro y hy
     constructor
     ·intro hm
      obtain ⟨i, hi⟩ := List.getElem?_of_mem hm
      rw [List.getElem?_set] at hi
      by_cases e3 : k = i
      ·rw [if_pos e3] at hi
       split at hi
       ·injection hi with hi; exact .inl hi.symm
       ·cases hi
      ·rw [if_neg e3] at hi
       exact .inr ⟨List.mem_of_getElem? hi, fun e4 => e3 (g.tj k i y (by rw [e4]; exact hk) hi hy)⟩
     ·rintro (rfl | ⟨hm, hne⟩)
      ·have hkl : k < c.table.length := (List.getElem?_eq_some_iff.1 hk).1
       exact List.mem_of_getElem? (show (c.table.set k (j : Int))[k]? = some (j : Int) by rw [List.getElem?_set_self hkl])
      ·obtain ⟨i, hi⟩ := List.getElem?_of_mem hm
       have : (c.table.set k (j : Int))[i]? = some y := by
        rw [List.getElem?_set, if_neg (fun e3 => hne (by subst e3; rw [hk] at hi; injection hi with hi; exact hi.symm))]
        exact hi
       exact List.mem_of_getElem? this
    have hrd : ∀ y ∈ c.table, 0 ≤ y → preadF d' n y = preadF c.d n y := fun y hy h0 => by
     have := g.ti y hy
     exact w6 y h0 (by omega) (fun e3 => z3 (by rw [← e3]; exact hy))
    have hro : ∀ y ∈ c.old, 0 ≤ y → preadF d' n y = preadF c.d n y := fun y hy h0 => by
     have := g.oi y hy
     exact w6 y h0 (by omega) (fun e3 => z2 (by rw [← e3]; exact hy))
    have hneg : ∀ y : Int, y < 0 → y ∈ c.table.set k (j : Int) → y ∈ c.table := fun y hy hm => by
     rcases List.mem_or_eq_of_mem_set hm with h | h
     ·exact h
     ·omega
    refine ⟨⟨w1, w2, g.br, w3, by show ((c.m.set j 2).set x 3).length = _; rw [List.length_set, List.length_set]; exact g.ml, g.ep, g.sl, ?_, ?_, ?_, ?_, g.oj, g.pj, ?_, g.pl, ?_, ?_, ?_, ?_⟩, ?_, rfl, w4⟩
    ·intro y hy
     show y = -1 ∨ 0 ≤ y ∧ y < (((c.m.set j 2).set x 3).length : Int)
     rw [List.length_set, List.length_set]
     by_cases h0 : 0 ≤ y
     ·rcases (mt y h0).1 hy with rfl | ⟨h, _⟩
      ·omega
      ·exact g.ti y h
     ·exact g.ti y (hneg y (by omega) hy)
    ·intro y hy
     show y = -1 ∨ 0 ≤ y ∧ y < (((c.m.set j 2).set x 3).length : Int)
     rw [List.length_set, List.length_set]
     exact g.oi y hy
    ·intro y hy
     show 0 ≤ y ∧ y < (((c.m.set j 2).set x 3).length : Int)
     rw [List.length_set, List.length_set]
     exact g.pi y hy
    ·exact g.tj.set_ k _ (.inr z3)
    ·intro y hy
     refine ⟨fun hm => ?_, (g.dt y hy).2⟩
     rcases (mt y (g.pi y hy).1).1 hm with rfl | ⟨h, _⟩
     ·exact z1 hy
     ·exact (g.dt y hy).1 h
    ·intro i y hi hy hyo
     have hi : (c.table.set k (j : Int))[i]? = some y := hi
     rw [List.getElem?_set] at hi
     split at hi
     ·split at hi
      ·injection hi with hi
       subst hi
       exact absurd hyo z2
      ·cases hi
     ·exact g.sm i y hi hy hyo
    ·intro i hi
     have hi : i < c.m.length := by simpa using hi
     show ((c.m.set j 2).set x 3).getD i 0 = kindOf _ (i : Int)
     rw [getD_set' _ _ _ _ (by rw [List.length_set]; exact hi), getD_set' _ _ _ _ hi]
     have hk2 : kindOf { c with d := d', m := (c.m.set j 2).set x 3, table := c.table.set k (j : Int) } (i : Int) = if (i : Int) ∈ c.parts then 1 else if (i : Int) ∈ c.old then (if (i : Int) ∈ c.table.set k (j : Int) then 1 else 3) else if (i : Int) ∈ c.table.set k (j : Int) then 2 else 0 := rfl
     rw [hk2]
     simp only [mt (i : Int) (by omega)]
     by_cases ei : x = i
     ·subst ei
      rw [if_pos rfl, if_neg (fun h => (g.dt _ h).1 hxt), if_pos ho, if_neg (by omega)]
     ·rw [if_neg ei]
      by_cases ej : j = i
      ·subst ej
       rw [if_pos rfl, if_neg z1, if_neg z2, if_pos (.inl rfl)]
      ·rw [if_neg ej, g.md i hi]
       unfold kindOf
       have : ((i : Int) = (j : Int) ∨ (i : Int) ∈ c.table ∧ (i : Int) ≠ (x : Int)) ↔ (i : Int) ∈ c.table := by
        constructor
        ·rintro (h | h)
         ·omega
         ·exact h.1
        ·exact fun h => .inr ⟨h, by omega⟩
       simp only [this]
    ·intro y hy h0
     rcases (mt y h0).1 hy with rfl | ⟨h, _⟩
     ·exact ⟨c.ep + 1, _, by omega, Int.le_refl _, padL_length p (by omega), w5⟩
     ·obtain ⟨q, s, q1, q2, q3, q4⟩ := g.rt y h h0
      exact ⟨q, s, q1, q2, q3, (hrd y h h0).trans q4⟩
    ·intro y hy h0
     obtain ⟨q, s, q1, q2, q3, q4⟩ := g.ro y hy h0
     exact ⟨q, s, q1, q2, q3, (hro y hy h0).trans q4⟩
    ·unfold C.absF
     simp only [List.length_set, St.mk.injEq, true_and, and_true]
     refine ⟨?_, ?_⟩
     ·refine set_map_ext _ _ _ _ _ _ ?_ (fun i y hi _ => ?_)
      ·unfold C.slotOf
       rw [if_neg (by omega)]
       simp only [w5]
       simp [z2]
      ·unfold C.slotOf
       by_cases h : y < 0
       ·rw [if_pos h, if_pos h]
       ·rw [if_neg h, if_neg h]
        simp only [hrd y (List.mem_of_getElem? hi) (by omega)]
     ·refine List.map_congr_left (fun y hy => ?_)
      by_cases h : y < 0
      ·rw [if_pos h, if_pos h]
      ·rw [if_neg h, if_neg h]
       simp only [hro y hy (by omega)]
  ·rw [if_pos (show decide ((x : Int) ∉ c.old) = true by simp [ho]), if_neg (show ¬ (isFresh (some (decide ((x : Int) ∉ c.old), (preadF c.d n x).1.s)) = false ∧ (c.absF n).free = 0) by simp [isFresh, ho])]
   obtain ⟨W0, W⟩ := page_write g hxl p (by omega)
   rw [W0]
   obtain ⟨w1, w2, w3, w4, w5, w6⟩ := W _ rfl
   generalize (pwriteF c.d n x (c.ep + 1) 2 p).1 = d' at *
   have hro : ∀ y ∈ c.old, 0 ≤ y → preadF d' n y = preadF c.d n y := fun y hy h0 => by
    have := g.oi y hy
    exact w6 y h0 (by omega) (fun e3 => ho (by rw [← e3]; exact hy))
   have hrd : ∀ y ∈ c.table, 0 ≤ y → y ≠ x → preadF d' n y = preadF c.d n y := fun y hy h0 hne => by
    have := g.ti y hy
    exact w6 y h0 (by omega) hne
   refine ⟨⟨w1, w2, g.br, w3, g.ml, g.ep, g.sl, g.ti, g.oi, g.pi, g.tj, g.oj, g.pj, g.dt, g.pl, g.sm, g.md, fun y hy h0 => ?_, fun y hy h0 => ?_⟩, ?_, rfl, w4⟩
   ·by_cases ey : y = x
    ·subst ey
     exact ⟨c.ep + 1, _, by omega, Int.le_refl _, padL_length p (by omega), w5⟩
    ·obtain ⟨q, s, q1, q2, q3, q4⟩ := g.rt y hy h0
     exact ⟨q, s, q1, q2, q3, (hrd y hy h0 ey).trans q4⟩
   ·obtain ⟨q, s, q1, q2, q3, q4⟩ := g.ro y hy h0
    exact ⟨q, s, q1, q2, q3, (hro y hy h0).trans q4⟩
   ·unfold C.absF
    simp only [St.mk.injEq, true_and, and_true]
    refine ⟨?_, ?_⟩
    ·have := set_map_ext (c.slotOf n) (C.slotOf { c with d := d' } n) c.table k (x : Int) (some (true, padL p 232)) (by
      unfold C.slotOf
      rw [if_neg (by omega)]
      simp only [w5]
      simp [ho]) (fun i y hi hne => by
      unfold C.slotOf
      by_cases h : y < 0
      ·rw [if_pos h, if_pos h]
      ·rw [if_neg h, if_neg h]
       simp only [hrd y (List.mem_of_getElem? hi) (by omega) (fun ey => hne (g.tj i k y hi (by rw [ey]; exact hk) (by omega)))])
     rw [← this]
     congr 1
     apply List.ext_getElem?
     intro i
     rw [List.getElem?_set]
     by_cases e3 : k = i
     ·subst e3
      rw [if_pos rfl, if_pos (List.getElem?_eq_some_iff.1 hk).1, hk]
     ·rw [if_neg e3]
    ·refine List.map_congr_left (fun y hy => ?_)
     by_cases h : y < 0
     ·rw [if_pos h, if_pos h]
     ·rw [if_neg h, if_neg h]
      simp only [hro y hy (by omega)]
 ·rw [if_neg hh, if_pos (show (3 : Int) ≠ 0 by decide)]
  have : ((c.absF n).at l) = none := by
   cases h : (c.absF n).at l with
   | none => rfl
   | some v => exact absurd (h1.2 (by rw [h]; rfl)) hh
  rw [this, if_pos (show ¬ (none : Option (Bool × List UInt8)).isSome = true by simp)]
  exact ⟨g, rfl, rfl, by show c.d.calls ≤ _; omega⟩
end Go.Proofs.YtbelcgjbhpjnpaaGreat.Sh

/- a disk plainly: what a call leaves of the other sectors; one that is armed; a crash. -/
namespace Go.Proofs.YtbelcgjbhpjnpaaGreat.Sh
open Go.RowKit Pk Dk Pg
theorem getD_setB (l : List Bool) (k : Nat) (x : Bool) (i : Nat) : (l.set k x).getD i false = if k = i ∧ k < l.length then x else l.getD i false := by
 simp only [List.getD, List.getElem?_set]
 by_cases h : k = i
 ·subst h
  by_cases h2 : k < l.length
  ·simp [h2]
  ·simp [h2]
 ·simp [h]
/-- sectors that a call leaves as they were -/
def Calm (n : Nat) (P : Nat → Prop) (d d' : D) : Prop := ∀ j, j < n → P j → sec d'.now j = sec d.now j ∧ (d.loose.getD j false = false → d'.loose.getD j false = false)
theorem Calm.refl {n : Nat} {P : Nat → Prop} (d : D) : Calm n P d d := fun _ _ _ => ⟨rfl, id⟩
theorem Calm.trans {n : Nat} {P : Nat → Prop} {a b c : D} (h : Calm n P a b) (k : Calm n P b c) : Calm n P a c := fun j hj hp => by
 obtain ⟨h1, h2⟩ := h j hj hp
 obtain ⟨k1, k2⟩ := k j hj hp
 exact ⟨k1.trans h1, fun e => k2 (h2 e)⟩
theorem Calm.mono {n : Nat} {P Q : Nat → Prop} {a b : D} (h : Calm n P a b) (hq : ∀ j, j < n → Q j → P j) : Calm n Q a b := fun j hj hp => h j hj (hq j hj hp)
theorem count_same (d : D) : d.countF.1.now = d.now ∧ d.countF.1.loose = d.loose ∧ d.countF.1.old = d.old := by
 unfold D.countF
 split
 ·exact ⟨rfl, rfl, rfl⟩
 ·split <;> exact ⟨rfl, rfl, rfl⟩
theorem keep_loose (d : D) (k j : Nat) (h : k ≠ j) : (d.keepF k).loose.getD j false = d.loose.getD j false := by
 unfold D.keepF
 split
 ·rfl
 ·show (d.loose.set k true).getD j false = _
  rw [getD_setB, if_neg (fun e => h e.1)]
theorem calm_write {d : D} {n : Nat} {P : Nat → Prop} (hok : d.Ok n) (k : Int) (s : List UInt8) (hP : ∀ j : Nat, (j : Int) = k → ¬ P j) : Calm n P d (d.writeF n k s).1 := by
 intro j hj hp
 unfold D.writeF
 by_cases h0 : d.atF n k = 0
 ·rw [if_pos h0]
  have hk : 0 ≤ k ∧ k < n := by
   unfold D.atF at h0
   split at h0
   ·cases h0
   ·split at h0
    ·assumption
    ·cases h0
  have hne : k.toNat ≠ j := fun e => hP j (by omega) hp
  obtain ⟨c1, c2, _⟩ := count_same (d.putF k.toNat s)
  rw [c1, c2]
  refine ⟨?_, fun e => ?_⟩
  ·show sec (setSec d.now k.toNat (fillF s)) j = _
   rw [sec_set hok.now (by omega) (fillF_length s) hj, if_neg hne]
  ·show (d.keepF k.toNat).loose.getD j false = false
   rw [keep_loose _ _ _ hne]; exact e
 ·rw [if_neg h0]
  exact ⟨rfl, id⟩
theorem calm_w4 {d : D} {n : Nat} {P : Nat → Prop} (hok : d.Ok n) (k : Nat) (b : List UInt8) (hP : ∀ j, k ≤ j → j < k + 4 → ¬ P j) : ∀ i, i ≤ 4 → Calm n P d (w4 d n k b i).1
 | 0, _ => .refl d
 | i + 1, hi => by
  have ih := calm_w4 hok k b hP i (by omega)
  unfold w4
  split
  ·exact ih.trans (calm_write (w4_okD hok k b i) _ _ (fun j e => hP j (by omega) (by omega)))
  ·exact ih
theorem calm_pwrite {d : D} {n : Nat} {P : Nat → Prop} (hok : d.Ok n) (id ep kd : Int) (s : List UInt8) (hP : ∀ j : Nat, 2 + 4 * id.toNat ≤ j → j < 2 + 4 * id.toNat + 4 → ¬ P j) : Calm n P d (pwriteF d n id ep kd s).1 := by
 unfold pwriteF
 split
 ·exact .refl d
 ·split
  ·exact .refl d
  ·exact calm_w4 hok _ _ hP 4 (Nat.le_refl _)
theorem getD_repl (n j : Nat) : (List.replicate n false).getD j false = false := by
 simp only [List.getD, List.getElem?_replicate]
 split <;> rfl
theorem calm_sync {d : D} {n : Nat} {P : Nat → Prop} : Calm n P d d.syncF.1 := by
 intro j _ _
 obtain ⟨c1, c2, _⟩ := count_same d
 unfold D.syncF
 split
 ·exact ⟨rfl, id⟩
 ·split
  ·exact ⟨by show sec d.countF.1.now j = _; rw [c1], fun _ => getD_repl _ _⟩
  ·rw [c1, c2]; exact ⟨rfl, id⟩
theorem sync_loose {d : D} (h : d.syncF.2 = 0) (j : Nat) : d.syncF.1.loose.getD j false = false := by
 unfold D.syncF at h ⊢
 by_cases hd : d.down = true
 ·rw [if_pos hd] at h; cases h
 rw [if_neg hd] at h ⊢
 by_cases hc : d.countF.2 = 0
 ·rw [if_pos hc]; exact getD_repl _ _
 ·rw [if_neg hc] at h; exact absurd h hc
/-- a page whose sectors are the same -/
theorem pread_sec {d d' : D} {n : Nat} (hd : d'.down = d.down) (x : Nat) (hx : x < manyF n) (h : ∀ j, 2 + 4 * x ≤ j → j < 2 + 4 * x + 4 → sec d'.now j = sec d.now j) : preadF d' n x = preadF d n x := by
 have e : (d'.now.drop (64 * (2 + 4 * x))).take 256 = (d.now.drop (64 * (2 + 4 * x))).take 256 := by
  rw [take4_sec, take4_sec, h _ (by omega) (by omega), h _ (by omega) (by omega), h _ (by omega) (by omega), h _ (by omega) (by omega)]
 unfold preadF
 rw [hd, show ((x : Nat) : Int).toNat = x by omega, e]
/-- the disk, armed for a call -/
def arm (u : D) (a : Int) : D := { u with armed := a }
theorem pread_arm (u : D) (a : Int) (n : Nat) (x : Int) : preadF (arm u a) n x = preadF u n x := rfl
theorem arm_okD {u : D} {n : Nat} (h : u.Ok n) {a : Int} (ha : 0 ≤ a) : (arm u a).Ok n := ⟨h.now, h.old, h.loose, h.small, ha, h.calls⟩
theorem keep_arm (u : D) (a : Int) (k : Nat) : (arm u a).keepF k = arm (u.keepF k) a := by
 unfold D.keepF
 show (if u.loose.getD k false = true then _ else _) = _
 split <;> rfl
theorem put_arm (u : D) (a : Int) (k : Nat) (s : List UInt8) : (arm u a).putF k s = arm (u.putF k s) a := by
 unfold D.putF
 rw [keep_arm]
 rfl
theorem count_arm {u : D} (hd : u.down = false) (h0 : u.armed = 0) {a : Int} (ha : 0 ≤ a) : (1 ≤ a ∧ (arm u a).countF.1.down = true ∧ (arm u a).countF.2 = 13) ∨ ∃ a', 0 ≤ a' ∧ a' ≤ a ∧ (arm u a).countF = (arm u.countF.1 a', u.countF.2) := by
 have e : u.countF = ({ u with calls := u.calls + 1 }, 0) := by unfold D.countF; rw [if_pos h0]
 rw [e]
 unfold D.countF
 show (1 ≤ a ∧ (if a = 0 then _ else if a = 1 then _ else _ : D × Int).1.down = true ∧ (if a = 0 then _ else if a = 1 then _ else _ : D × Int).2 = 13) ∨ ∃ a', 0 ≤ a' ∧ a' ≤ a ∧ (if a = 0 then _ else if a = 1 then _ else _ : D × Int) = _
 by_cases e0 : a = 0
 ·subst e0
  exact .inr ⟨0, Int.le_refl _, Int.le_refl _, by rw [if_pos rfl]; rfl⟩
 ·by_cases e1 : a = 1
  ·rw [if_neg e0, if_pos e1]
   exact .inl ⟨by omega, rfl, rfl⟩
  ·rw [if_neg e0, if_neg e1]
   refine .inr ⟨a - 1, by omega, by omega, ?_⟩
   show (({ arm u a with calls := u.calls + 1, armed := a - 1, down := false } : D), (0 : Int)) = _
   unfold arm
   rw [hd]
theorem count_up {u : D} (hd : u.down = false) (h0 : u.armed = 0) : u.countF.1.down = false ∧ u.countF.1.armed = 0 := by
 obtain ⟨_, c2, c3⟩ := count_quiet _ h0
 exact ⟨c3.trans hd, c2⟩
theorem write_up {u : D} (hd : u.down = false) (h0 : u.armed = 0) (n : Nat) (k : Int) (s : List UInt8) : (u.writeF n k s).1.down = false ∧ (u.writeF n k s).1.armed = 0 := by
 unfold D.writeF
 split
 ·exact count_up ((keep_quiet u _).2.trans hd) ((keep_quiet u _).1.trans h0)
 ·exact ⟨hd, h0⟩
/-- a call of a disk that is armed: it goes down, or all is as if it were not armed -/
def Sim (r r' : D × Int) (a : Int) : Prop := (1 ≤ a ∧ r'.1.down = true ∧ r'.2 = 13) ∨ ∃ a', 0 ≤ a' ∧ a' ≤ a ∧ r' = (arm r.1 a', r.2)
theorem write_arm {u : D} (hd : u.down = false) (h0 : u.armed = 0) {a : Int} (ha : 0 ≤ a) (n : Nat) (k : Int) (s : List UInt8) : Sim (u.writeF n k s) ((arm u a).writeF n k s) a := by
 unfold D.writeF
 show Sim _ (if (arm u a).atF n k = 0 then _ else _) a
 rw [show (arm u a).atF n k = u.atF n k from rfl]
 by_cases h : u.atF n k = 0
 ·rw [if_pos h, if_pos h, put_arm]
  exact count_arm (u := u.putF k.toNat s) (show (u.keepF k.toNat).down = false from (keep_quiet u _).2.trans hd) (show (u.keepF k.toNat).armed = 0 from (keep_quiet u _).1.trans h0) ha
 ·rw [if_neg h, if_neg h]
  exact .inr ⟨a, ha, Int.le_refl _, rfl⟩
theorem w4_up {u : D} (hd : u.down = false) (h0 : u.armed = 0) (n k : Nat) (b : List UInt8) : ∀ i, (w4 u n k b i).1.down = false ∧ (w4 u n k b i).1.armed = 0
 | 0 => ⟨hd, h0⟩
 | i + 1 => by
  obtain ⟨h1, h2⟩ := w4_up hd h0 n k b i
  unfold w4
  split
  ·exact write_up h1 h2 _ _ _
  ·exact ⟨h1, h2⟩
theorem w4_arm {u : D} (hd : u.down = false) (h0 : u.armed = 0) {a : Int} (ha : 0 ≤ a) (n k : Nat) (b : List UInt8) : ∀ i, Sim (w4 u n k b i) (w4 (arm u a) n k b i) a
 | 0 => .inr ⟨a, ha, Int.le_refl _, rfl⟩
 | i + 1 => by
  have ih := w4_arm hd h0 ha n k b i
  obtain ⟨u1, u2⟩ := w4_up hd h0 n k b i
  unfold w4
  rcases ih with ⟨h0, h1, h2⟩ | ⟨a', h1, h3, h2⟩
  ·rw [if_neg (show ¬ (w4 (arm u a) n k b i).2 = 0 by rw [h2]; decide)]
   exact .inl ⟨h0, h1, h2⟩
  ·rw [h2]
   dsimp only
   by_cases hz : (w4 u n k b i).2 = 0
   ·rw [if_pos hz, if_pos hz]
    rcases write_arm u1 u2 h1 n ((k : Int) + i) ((b.drop (64 * i)).take 64) with ⟨x0, x1, x2⟩ | ⟨a2, y1, y2, y3⟩
    ·exact .inl ⟨by omega, x1, x2⟩
    ·exact .inr ⟨a2, y1, by omega, y3⟩
   ·rw [if_neg hz, if_neg hz]
    exact .inr ⟨a', h1, h3, rfl⟩
theorem pwrite_up {u : D} (hd : u.down = false) (h0 : u.armed = 0) (n : Nat) (id ep kd : Int) (s : List UInt8) : (pwriteF u n id ep kd s).1.down = false ∧ (pwriteF u n id ep kd s).1.armed = 0 := by
 unfold pwriteF
 split
 ·exact ⟨hd, h0⟩
 ·split
  ·exact ⟨hd, h0⟩
  ·exact w4_up hd h0 _ _ _ _
theorem pwrite_arm {u : D} (hd : u.down = false) (h0 : u.armed = 0) {a : Int} (ha : 0 ≤ a) (n : Nat) (id ep kd : Int) (s : List UInt8) : Sim (pwriteF u n id ep kd s) (pwriteF (arm u a) n id ep kd s) a := by
 unfold pwriteF
 split
 ·exact .inr ⟨a, ha, Int.le_refl _, rfl⟩
 ·split
  ·exact .inr ⟨a, ha, Int.le_refl _, rfl⟩
  ·exact w4_arm hd h0 ha _ _ _ _
theorem sync_up {u : D} (hd : u.down = false) (h0 : u.armed = 0) : u.syncF.1.down = false ∧ u.syncF.1.armed = 0 := by
 unfold D.syncF
 rw [if_neg (by rw [hd]; simp)]
 split
 ·exact count_up hd h0
 ·exact count_up hd h0
theorem sync_arm {u : D} (hd : u.down = false) (h0 : u.armed = 0) {a : Int} (ha : 0 ≤ a) : Sim u.syncF (arm u a).syncF a := by
 obtain ⟨c1, c2, c3⟩ := count_quiet u h0
 have e : u.syncF = ({ u.countF.1 with loose := List.replicate u.loose.length false }, 0) := by
  unfold D.syncF
  rw [if_neg (by rw [hd]; simp), if_pos c1]
 rw [e]
 unfold D.syncF
 rw [if_neg (show ¬ (arm u a).down = true by show ¬ u.down = true; rw [hd]; simp)]
 rcases count_arm hd h0 ha with ⟨h0', h1, h2⟩ | ⟨a', h1, h3, h2⟩
 ·rw [if_neg (by rw [h2]; decide)]
  exact .inl ⟨h0', h1, h2⟩
 ·rw [h2]
  dsimp only
  rw [if_pos c1]
  exact .inr ⟨a', h1, h3, rfl⟩
/-- a sector behind a crash -/
theorem crash_sec {d : D} {n : Nat} (h : d.Ok n) (C : Cr) (j : Nat) (hj : j < n) : ∃ k, k ≤ 64 ∧ sec (d.crashF C n).now j = if d.loose.getD j false = true then (sec d.now j).take k ++ (sec d.old j).drop k else sec d.now j := by
 have key : ∀ i, i ≤ n → (∀ j, j < n → i ≤ j → sec (D.crashTo C d i).1.now j = sec d.now j ∧ (D.crashTo C d i).1.loose.getD j false = d.loose.getD j false) ∧ (D.crashTo C d i).1.old = d.old ∧
   (∀ j, j < i → ∃ k, k ≤ 64 ∧ sec (D.crashTo C d i).1.now j = if d.loose.getD j false = true then (sec d.now j).take k ++ (sec d.old j).drop k else sec d.now j) := by
  intro i
  induction i with
  | zero => exact fun _ => ⟨fun j _ _ => ⟨rfl, rfl⟩, rfl, fun j hj => by omega⟩
  | succ i ih =>
   intro hi
   obtain ⟨h1, h2, h3⟩ := ih (by omega)
   obtain ⟨hok, _⟩ := h.crashTo C i (by omega)
   obtain ⟨a1, a2⟩ := h1 i (by omega) (Nat.le_refl _)
   simp only [D.crashTo]
   rw [a2]
   by_cases hl : d.loose.getD i false = true
   ·rw [if_pos hl]
    obtain ⟨k, hk⟩ : ∃ k, k = C.leftF (D.crashTo C d i).2 := ⟨_, rfl⟩
    have hk64 : k ≤ 64 := by rw [hk]; exact C.left_le _
    have e1 := sec_length hok.now (show i < n by omega)
    have e2 := sec_length hok.old (show i < n by omega)
    have hs : ∀ j, j < n → sec ((D.crashTo C d i).1.crashOne C (D.crashTo C d i).2 i).now j = if i = j then (sec (D.crashTo C d i).1.now i).take k ++ (sec (D.crashTo C d i).1.old i).drop k else sec (D.crashTo C d i).1.now j := by
     intro j hj
     show sec (setSec _ _ _) j = _
     rw [← hk, sec_set hok.now (by omega) (by rw [List.length_append, List.length_take, List.length_drop, e1, e2]; omega) hj]
    refine ⟨fun j hj hij => ?_, h2, fun j hj => ?_⟩
    ·obtain ⟨b1, b2⟩ := h1 j hj (by omega)
     refine ⟨by rw [hs j hj, if_neg (by omega)]; exact b1, ?_⟩
     show ((D.crashTo C d i).1.loose.set i false).getD j false = _
     rw [getD_setB, if_neg (by omega)]; exact b2
    ·by_cases e : i = j
     ·subst e
      refine ⟨k, hk64, ?_⟩
      rw [if_pos hl]
      show sec ((D.crashTo C d i).1.crashOne C (D.crashTo C d i).2 i).now i = _
      rw [hs i (by omega), if_pos rfl, a1, h2]
     ·obtain ⟨k', b1, b2⟩ := h3 j (by omega)
      refine ⟨k', b1, ?_⟩
      show sec ((D.crashTo C d i).1.crashOne C (D.crashTo C d i).2 i).now j = _
      rw [hs j (by omega), if_neg e]; exact b2
   ·rw [if_neg hl]
    refine ⟨fun j hj hij => h1 j hj (by omega), h2, fun j hj => ?_⟩
    by_cases e : i = j
    ·subst e
     exact ⟨0, by omega, by rw [if_neg hl]; exact a1⟩
    ·exact h3 j (by omega)
 exact (key n (Nat.le_refl n)).2.2 j hj
/-- a sector that is written: its old bytes are kept -/
theorem write_old {d : D} {n k : Nat} (hok : d.Ok n) (hk : k < n) (hd : d.down = false) (hl : d.loose.getD k false = false) (s : List UInt8) :
  sec (d.writeF n k s).1.now k = fillF s ∧ sec (d.writeF n k s).1.old k = sec d.now k := by
 have h0 : d.atF n k = 0 := by rw [atF_val d n k hk]; simp [hd]
 unfold D.writeF
 rw [if_pos h0, show ((k : Nat) : Int).toNat = k by omega]
 obtain ⟨c1, _, c3⟩ := count_same (d.putF k s)
 rw [c1, c3]
 refine ⟨?_, ?_⟩
 ·show sec (setSec d.now k (fillF s)) k = _
  rw [sec_set hok.now hk (fillF_length s) hk, if_pos rfl]
 ·show sec (d.keepF k).old k = _
  unfold D.keepF
  rw [if_neg (by rw [hl]; simp)]
  show sec (setSec d.old k (sec d.now k)) k = _
  rw [sec_set hok.old hk (sec_length hok.now hk) hk, if_pos rfl]
end Go.Proofs.YtbelcgjbhpjnpaaGreat.Sh

/- the healthy store: what a commit laid lies there, and no call but a commit touches it. -/
namespace Go.Proofs.YtbelcgjbhpjnpaaGreat.Sh
open Go.RowKit Pk Dk Pg
def upD (d : D) : D := { d with down := false }
theorem upD_eq {d : D} (h : d.down = false) : upD d = d := by unfold upD; rw [← h]
/-- the sectors that the committed root reaches -/
def Kept (parts old : List Int) (j : Nat) : Prop := j < 2 ∨ ∃ x : Nat, ((x : Int) ∈ parts ∨ (x : Int) ∈ old) ∧ 2 + 4 * x ≤ j ∧ j < 2 + 4 * x + 4
structure Rooted (d : D) (n : Nat) (ep slot : Int) (old parts : List Int) : Prop where
 n2 : 2 ≤ n
 ro : Rt.rightR ep (old.length : Nat) parts
 sl : slot = 0 ∨ slot = 1
 rt : sec d.now slot.toNat = Rt.rootL ep old.length (parts.map Int.toNat)
 ot : Rt.goodR (sec d.now (1 - slot).toNat) → Rt.decEp (sec d.now (1 - slot).toNat) < ep
 pp : ∀ (i : Nat) (x : Int), parts[i]? = some x → ∃ q, 0 ≤ q ∧ q ≤ ep ∧ preadF (upD d) n x = (⟨x, q, 1, padL (Rt.partF (Rt.segF old i)) 232⟩, 0)
 lo : ∀ j, j < n → Kept parts old j → d.loose.getD j false = false
/-- the other slot says nothing, or something older, and both its ends say the same -/
def Twin (d : D) (slot ep : Int) : Prop := (sec d.now (1 - slot).toNat).take 8 = (sec d.now (1 - slot).toNat).drop 56 ∧ Rt.decEp (sec d.now (1 - slot).toNat) < ep
theorem pread_in {d : D} {n : Nat} {x : Int} (h : (preadF d n x).2 = 0) : 0 ≤ x ∧ x < manyF n := by
 unfold preadF at h
 by_cases hx : x < 0 ∨ (manyF n : Int) ≤ x
 ·rw [if_pos hx] at h; exact absurd h (by decide)
 ·omega
theorem many_le {n x : Nat} (hx : x < manyF n) : 2 + 4 * x + 4 ≤ n := by unfold manyF at hx; omega
theorem Rooted.calm {d d' : D} {n : Nat} {ep slot : Int} {old parts : List Int} (R : Rooted d n ep slot old parts) (h : Calm n (Kept parts old) d d') : Rooted d' n ep slot old parts := by
 have n2 := R.n2
 have hs := R.sl
 have e1 := (h slot.toNat (by omega) (.inl (by omega))).1
 have e2 := (h (1 - slot).toNat (by omega) (.inl (by omega))).1
 refine ⟨R.n2, R.ro, R.sl, e1.trans R.rt, by rw [e2]; exact R.ot, fun i x hx => ?_, fun j hj hk => (h j hj hk).2 (R.lo j hj hk)⟩
 obtain ⟨q, q0, q1, q2⟩ := R.pp i x hx
 obtain ⟨h0, h1⟩ := pread_in (by rw [q2])
 refine ⟨q, q0, q1, ?_⟩
 rw [← q2]
 have := pread_sec (d := upD d) (d' := upD d') (n := n) rfl x.toNat (by omega) (fun j a b => (h j (by have := many_le (show x.toNat < manyF n by omega); omega) (.inr ⟨x.toNat, .inl (by rw [show ((x.toNat : Nat) : Int) = x by omega]; exact List.mem_of_getElem? hx), a, b⟩)).1)
 rwa [show ((x.toNat : Nat) : Int) = x by omega] at this
theorem Twin.calm {d d' : D} {n : Nat} {ep slot : Int} {P : Nat → Prop} (T : Twin d slot ep) (n2 : 2 ≤ n) (hs : slot = 0 ∨ slot = 1) (hP : ∀ j, j < 2 → P j) (h : Calm n P d d') : Twin d' slot ep := by
 have e2 := (h (1 - slot).toNat (by omega) (hP _ (by omega))).1
 unfold Twin
 rw [e2]; exact T
/-- a page that the committed root does not reach -/
theorem not_kept {parts old : List Int} {k : Nat} (h1 : (k : Int) ∉ parts) (h2 : (k : Int) ∉ old) (j : Nat) (a : 2 + 4 * k ≤ j) (b : j < 2 + 4 * k + 4) : ¬ Kept parts old j := by
 rintro (h | ⟨x, h, c, e⟩)
 ·omega
 ·obtain rfl : x = k := by omega
  exact h.elim h1 h2
/-- the same store on another disk -/
def C.on (c : C) (d : D) : C := { c with d := d }
theorem fresh_on {c : C} {n : Nat} (g : Good c n) (d0 : D) (p : List UInt8) (hok : d0.Ok n) : Calm n (Kept c.parts c.old) d0 ((c.on d0).freshF n p).1.d := by
 by_cases hf : (c.absF n).free = 0
 ·unfold C.freshF
  have e2 : Fm.takeF (c.on d0).m = Fm.takeF c.m := rfl
  rw [e2, take_full g hf, if_pos (by simp)]
  exact .refl d0
 ·obtain ⟨k, hk, h0, e⟩ := take_free g hf
  obtain ⟨z1, z2, z3⟩ := kind0 h0
  have this : Calm n (Kept c.parts c.old) d0 (pwriteF (c.on d0).d n ((k : Nat) : Int) ((c.on d0).ep + 1) 2 p).1 := calm_pwrite hok ((k : Nat) : Int) (c.ep + 1) 2 p (fun j a b => not_kept z1 z2 j (by omega) (by omega))
  unfold C.freshF
  have e2 : Fm.takeF (c.on d0).m = Fm.takeF c.m := rfl
  rw [e2, e, if_neg (by simp)]
  split
  ·exact this
  ·exact this
theorem new_on {c : C} {n : Nat} (g : Good c n) (d0 : D) (p : List UInt8) (hok : d0.Ok n) : Calm n (Kept c.parts c.old) d0 ((c.on d0).newF n p).1.d := by
 have := fresh_on g d0 p hok
 unfold C.newF
 rw [if_neg (show ¬ (c.on d0).broken = true by show ¬ c.broken = true; rw [g.br]; simp)]
 split
 ·exact .refl d0
 ·split
  ·exact .refl d0
  ·split
   ·exact this
   ·exact this
theorem fresh_not {c : C} {n : Nat} (g : Good c n) {x : Int} (h : Fm.freshF c.m x = true) : ∃ k : Nat, x = k ∧ k < c.m.length ∧ (k : Int) ∉ c.parts ∧ (k : Int) ∉ c.old := by
 unfold Fm.freshF Fm.inF at h
 simp only [Bool.and_eq_true, decide_eq_true_eq, beq_iff_eq] at h
 obtain ⟨⟨h0, h1⟩, h2⟩ := h
 refine ⟨x.toNat, by omega, by omega, ?_⟩
 rw [g.md _ (by omega)] at h2
 unfold kindOf at h2
 split at h2
 ·omega
 ·split at h2
  ·split at h2 <;> omega
  ·exact ⟨by assumption, by assumption⟩
theorem write_on {c : C} {n : Nat} (g : Good c n) (d0 : D) (l : Int) (p : List UInt8) (hok : d0.Ok n) : Calm n (Kept c.parts c.old) d0 ((c.on d0).writeF n l p).1.d := by
 have := fresh_on g d0 p hok
 unfold C.writeF
 rw [if_neg (show ¬ (c.on d0).broken = true by show ¬ c.broken = true; rw [g.br]; simp)]
 split
 ·exact .refl d0
 ·split
  ·exact .refl d0
  ·split
   ·rename_i hf
    obtain ⟨k, e, hk, z1, z2⟩ := fresh_not g hf
    show Calm n _ d0 (pwriteF d0 n _ _ _ _).1
    exact calm_pwrite hok _ _ _ _ (fun j a b => by
     have e : ((c.on d0).table.getD l.toNat 0).toNat = k := by omega
     rw [e] at a b
     exact not_kept z1 z2 j a b)
   ·split
    ·exact this
    ·exact this
theorem new_rooted {c : C} {n : Nat} (g : Good c n) (R : Rooted c.d n c.ep c.slot c.old c.parts) (p : List UInt8) : Rooted (c.newF n p).1.d n c.ep c.slot c.old c.parts := R.calm (new_on g c.d p g.ok)
theorem write_rooted {c : C} {n : Nat} (g : Good c n) (R : Rooted c.d n c.ep c.slot c.old c.parts) (l : Int) (p : List UInt8) : Rooted (c.writeF n l p).1.d n c.ep c.slot c.old c.parts := R.calm (write_on g c.d l p g.ok)
theorem new_fields (c : C) (n : Nat) (p : List UInt8) : (c.newF n p).1.old = c.old ∧ (c.newF n p).1.parts = c.parts ∧ (c.newF n p).1.ep = c.ep ∧ (c.newF n p).1.slot = c.slot ∧ (c.newF n p).1.broken = c.broken := by
 obtain ⟨f1, f2, f3, f4, f5, f6⟩ := freshF_table c n p
 unfold C.newF
 split
 ·exact ⟨rfl, rfl, rfl, rfl, rfl⟩
 ·split
  ·exact ⟨rfl, rfl, rfl, rfl, rfl⟩
  ·split
   ·exact ⟨rfl, rfl, rfl, rfl, rfl⟩
   ·split
    ·exact ⟨f2, f3, f4, f5, f6⟩
    ·exact ⟨f2, f3, f4, f5, f6⟩
theorem write_fields (c : C) (n : Nat) (l : Int) (p : List UInt8) : (c.writeF n l p).1.old = c.old ∧ (c.writeF n l p).1.parts = c.parts ∧ (c.writeF n l p).1.ep = c.ep ∧ (c.writeF n l p).1.slot = c.slot ∧ (c.writeF n l p).1.broken = c.broken := by
 obtain ⟨f1, f2, f3, f4, f5, f6⟩ := freshF_table c n p
 unfold C.writeF
 split
 ·exact ⟨rfl, rfl, rfl, rfl, rfl⟩
 ·split
  ·exact ⟨rfl, rfl, rfl, rfl, rfl⟩
  ·split
   ·exact ⟨rfl, rfl, rfl, rfl, rfl⟩
   ·split
    ·exact ⟨rfl, rfl, rfl, rfl, rfl⟩
    ·split
     ·exact ⟨f2, f3, f4, f5, f6⟩
     ·exact ⟨f2, f3, f4, f5, f6⟩
end Go.Proofs.YtbelcgjbhpjnpaaGreat.Sh

/- the healthy store: a commit, plainly. -/
namespace Go.Proofs.YtbelcgjbhpjnpaaGreat.Sh
open Go.RowKit Pk Dk Pg
theorem first_zero {m : List Int} (h : ∃ i, i < m.length ∧ m.getD i 0 = 0) : Fm.firstF m 0 < m.length ∧ m.getD (Fm.firstF m 0) 0 = 0 := by
 obtain ⟨i, hi, h0⟩ := h
 have hlt : Fm.firstF m 0 < m.length := by
  unfold Fm.firstF
  rw [List.findIdx_lt_length]
  refine ⟨m[i], List.getElem_mem hi, ?_⟩
  simp [List.getD, List.getElem?_eq_getElem hi] at h0
  simp [h0]
 refine ⟨hlt, ?_⟩
 have := List.findIdx_getElem (p := (· == (0 : Int))) (xs := m) (w := hlt)
 simp [List.getD]
 unfold Fm.firstF at hlt ⊢
 rw [List.getElem?_eq_getElem hlt]
 simpa using this
theorem takeN_spec (m : List Int) : ∀ k, k ≤ (Fm.listF m 0).length → (takeN m k).1.length = m.length ∧ (takeN m k).2.Nodup ∧ (∀ x ∈ (takeN m k).2, ∃ i : Nat, x = i ∧ i < m.length ∧ m.getD i 0 = 0) ∧ ∀ i : Nat, i < m.length → (takeN m k).1.getD i 0 = if (i : Int) ∈ (takeN m k).2 then 2 else m.getD i 0
 | 0, _ => ⟨rfl, List.nodup_nil, by simp [takeN], fun i hi => by simp [takeN]⟩
 | k + 1, h => by
  obtain ⟨h1, h2, h3, h4⟩ := takeN_spec m k (by omega)
  have hl := takeN_len m k
  have hz : ∃ i, i < (takeN m k).1.length ∧ (takeN m k).1.getD i 0 = 0 := by
   by_cases hh : ∃ i, i < (takeN m k).1.length ∧ (takeN m k).1.getD i 0 = 0
   ·exact hh
   ·have := nodup_le (Fm.listF m 0) (takeN m k).2 (nodup_listF m 0) (fun x hx => by
     obtain ⟨i, rfl, hi, h0⟩ := mem_listF.1 hx
     by_cases hm : (i : Int) ∈ (takeN m k).2
     ·exact hm
     ·exact absurd ⟨i, by rw [h1]; exact hi, by rw [h4 i hi, if_neg hm]; exact h0⟩ hh)
    omega
  obtain ⟨f1, f2⟩ := first_zero hz
  obtain ⟨F, hF⟩ : ∃ F, Fm.firstF (takeN m k).1 0 = F := ⟨_, rfl⟩
  rw [hF] at f1 f2
  have e : Fm.takeF (takeN m k).1 = ((takeN m k).1.set F 2, ((F : Nat) : Int), 0) := by unfold Fm.takeF; rw [hF, if_pos f1]
  have e1 : (takeN m (k + 1)).1 = (takeN m k).1.set F 2 := by show (Fm.takeF _).1 = _; rw [e]
  have e2 : (takeN m (k + 1)).2 = (takeN m k).2 ++ [((F : Nat) : Int)] := by show _ ++ [(Fm.takeF _).2.1] = _; rw [e]
  have hFm : F < m.length := by rw [← h1]; exact f1
  have hFn : ((F : Nat) : Int) ∉ (takeN m k).2 := fun hm => by
   rw [h4 F hFm, if_pos hm] at f2
   omega
  have hF0 : m.getD F 0 = 0 := by
   rw [h4 F hFm, if_neg hFn] at f2
   exact f2
  rw [e1, e2]
  refine ⟨by rw [List.length_set]; exact h1, ?_, fun x hx => ?_, fun i hi => ?_⟩
  ·rw [List.nodup_append]
   refine ⟨h2, by simp, fun a ha b hb e => ?_⟩
   rw [List.mem_singleton.1 hb] at e
   exact hFn (by rw [← e]; exact ha)
  ·rcases List.mem_append.1 hx with hx | hx
   ·exact h3 x hx
   ·exact ⟨F, List.mem_singleton.1 hx, hFm, hF0⟩
  ·rw [getD_set' _ _ _ _ (by omega)]
   by_cases e : F = i
   ·subst e
    rw [if_pos rfl, if_pos (List.mem_append_right _ (List.mem_singleton.2 rfl))]
   ·rw [if_neg e, h4 i hi]
    have : ((i : Int) ∈ (takeN m k).2 ++ [((F : Nat) : Int)]) ↔ (i : Int) ∈ (takeN m k).2 := by
     rw [List.mem_append, List.mem_singleton]
     exact ⟨fun h => h.elim id (fun h => by omega), .inl⟩
    simp only [this]
theorem leaveAll_spec : ∀ (L : List Int) (m : List Int), L.Nodup → (∀ x ∈ L, ∃ i : Nat, x = i ∧ i < m.length ∧ m.getD i 0 = 1) → (leaveAll m L).length = m.length ∧ ∀ i : Nat, i < m.length → (leaveAll m L).getD i 0 = if (i : Int) ∈ L then 3 else m.getD i 0
 | [], m, _, _ => ⟨rfl, fun i hi => by simp [leaveAll]⟩
 | x :: L, m, hn, h => by
  obtain ⟨n1, n2⟩ := List.nodup_cons.1 hn
  obtain ⟨k, rfl, hk, h1⟩ := h x (List.mem_cons_self ..)
  have e : (Fm.leaveF m ((k : Nat) : Int)).1 = m.set k 3 := by
   unfold Fm.leaveF
   rw [show Fm.inF m ((k : Nat) : Int) = true from by unfold Fm.inF; simp; omega, if_pos rfl, show ((k : Nat) : Int).toNat = k by omega, h1, if_neg (by decide), if_pos rfl]
  obtain ⟨r1, r2⟩ := leaveAll_spec L (m.set k 3) n2 (fun y hy => by
   obtain ⟨i, rfl, hi, h0⟩ := h y (List.mem_cons_of_mem _ hy)
   exact ⟨i, rfl, by rw [List.length_set]; exact hi, by rw [getD_set' _ _ _ _ hi, if_neg (fun e => n1 (by rw [e]; exact hy))]; exact h0⟩)
  rw [List.length_set] at r1 r2
  show (leaveAll (Fm.leaveF m ((k : Nat) : Int)).1 L).length = _ ∧ ∀ i : Nat, i < m.length → (leaveAll (Fm.leaveF m ((k : Nat) : Int)).1 L).getD i 0 = _
  rw [e]
  refine ⟨r1, fun i hi => ?_⟩
  rw [r2 i hi, getD_set' _ _ _ _ hi]
  by_cases hik : k = i
  ·subst hik
   rw [if_pos (List.mem_cons_self ..), if_neg n1, if_pos rfl]
  ·rw [if_neg hik]
   have : ((i : Int) ∈ ((k : Nat) : Int) :: L) ↔ (i : Int) ∈ L := by
    rw [List.mem_cons]
    exact ⟨fun h => h.elim (fun h => by omega) id, .inr⟩
   simp only [this]
theorem trimT_neg (t : List Int) : ∀ k i, trimT t k ≤ i → i < k → t.getD i 0 < 0
 | 0, i, _, h => by omega
 | k + 1, i, h, hi => by
  rw [trimT_succ] at h
  split at h
  ·by_cases e : i = k
   ·subst e; assumption
   ·exact trimT_neg t k i h (by omega)
  ·omega
theorem mem_trim {t : List Int} {x : Int} (h0 : 0 ≤ x) : x ∈ t.take (trimT t t.length) ↔ x ∈ t := by
 refine ⟨List.mem_of_mem_take, fun h => ?_⟩
 obtain ⟨i, hi⟩ := List.getElem?_of_mem h
 have hl := (List.getElem?_eq_some_iff.1 hi).1
 have hlt : i < trimT t t.length := by
  refine Nat.lt_of_not_le (fun hle => ?_)
  have := trimT_neg t t.length i hle hl
  simp only [List.getD, hi, Option.getD_some] at this
  omega
 have : (t.take (trimT t t.length))[i]? = some x := by rw [List.getElem?_take_of_lt hlt]; exact hi
 exact List.mem_of_getElem? this
theorem get_take {α : Type} {t : List α} {k i : Nat} {x : α} (h : (t.take k)[i]? = some x) : t[i]? = some x := by
 have hl := (List.getElem?_eq_some_iff.1 h).1
 rw [List.length_take] at hl
 rw [List.getElem?_take_of_lt (by omega)] at h
 exact h
/-- more empty places behind -/
def St.pad (b : St) (k : Nat) : St := { b with now := b.now ++ List.replicate k none }
theorem kind_trim (c : C) {x : Int} (h0 : 0 ≤ x) : kindOf c.trimF x = kindOf c x := by
 unfold kindOf
 show (if x ∈ c.parts then 1 else if x ∈ c.old then (if x ∈ c.table.take _ then 1 else 3) else if x ∈ c.table.take _ then 2 else 0 : Int) = _
 simp only [mem_trim h0]
theorem trim_good {c : C} {n : Nat} (g : Good c n) : Good c.trimF n ∧ c.absF n = (c.trimF.absF n).pad (c.table.length - trimT c.table c.table.length) := by
 have hle := trimT_le c.table c.table.length
 refine ⟨⟨g.up, g.arm, g.br, g.ok, g.ml, g.ep, g.sl, fun x hx => g.ti x (List.mem_of_mem_take hx), g.oi, g.pi, fun i j x hi hj => g.tj i j x (get_take hi) (get_take hj), g.oj, g.pj, fun x hx => ⟨fun h => (g.dt x hx).1 (List.mem_of_mem_take h), (g.dt x hx).2⟩, g.pl, fun i x hi => g.sm i x (get_take hi), fun i hi => ?_, fun x hx => g.rt x (List.mem_of_mem_take hx), g.ro⟩, ?_⟩
 ·rw [kind_trim c (by omega)]; exact g.md i hi
 ·unfold C.absF St.pad
  simp only [St.mk.injEq, true_and]
  refine ⟨rfl, ?_, rfl, rfl⟩
  have e : c.table = c.trimF.table ++ c.table.drop (trimT c.table c.table.length) := (List.take_append_drop _ _).symm
  have e2 : (c.table.drop (trimT c.table c.table.length)).map (c.slotOf n) = List.replicate (c.table.length - trimT c.table c.table.length) none := by
   rw [List.eq_replicate_iff]
   refine ⟨by simp, fun b hb => ?_⟩
   obtain ⟨x, hx, rfl⟩ := List.mem_map.1 hb
   obtain ⟨i, hi⟩ := List.getElem?_of_mem hx
   rw [List.getElem?_drop] at hi
   have hl := (List.getElem?_eq_some_iff.1 hi).1
   have := trimT_neg c.table c.table.length _ (Nat.le_add_right _ i) hl
   simp only [List.getD, hi, Option.getD_some] at this
   unfold C.slotOf
   rw [if_pos this]
  have e3 : c.table.map (c.slotOf n) = c.trimF.table.map (c.slotOf n) ++ (c.table.drop (trimT c.table c.table.length)).map (c.slotOf n) := by
   rw [← List.map_append, ← e]
  rw [e3, e2]
  rfl
theorem part_le (l : List Int) (i : Nat) : (Rt.partF (Rt.segF l i)).length ≤ 232 := by
 unfold Rt.partF
 rw [Rt.flat_two, List.length_map, Rt.segF_length]
 omega
theorem nodup_get : ∀ {l : List Int} {i j : Nat} {x : Int}, l.Nodup → l[i]? = some x → l[j]? = some x → i = j
 | [], i, j, x, _, hi, _ => by simp at hi
 | y :: l, 0, 0, x, _, _, _ => rfl
 | y :: l, 0, j + 1, x, h, hi, hj => by
  have hj : l[j]? = some x := by simpa using hj
  have hi : y = x := by simpa using hi
  subst hi
  exact absurd (List.mem_of_getElem? hj) (List.nodup_cons.1 h).1
 | y :: l, i + 1, 0, x, h, hi, hj => by
  have hi : l[i]? = some x := by simpa using hi
  have hj : y = x := by simpa using hj
  subst hj
  exact absurd (List.mem_of_getElem? hi) (List.nodup_cons.1 h).1
 | y :: l, i + 1, j + 1, x, h, hi, hj => by
  have := nodup_get (l := l) (i := i) (j := j) (x := x) (List.nodup_cons.1 h).2 (by simpa using hi) (by simpa using hj)
  omega
/-- the pages of a list: their sectors -/
def InP (P : List Int) (j : Nat) : Prop := ∃ x : Nat, (x : Int) ∈ P ∧ 2 + 4 * x ≤ j ∧ j < 2 + 4 * x + 4
theorem layP_good {c : C} {n : Nat} (hd : c.d.down = false) (ha : c.d.armed = 0) (hok : c.d.Ok n) {P : List Int} (hP : P.Nodup) (hr : ∀ x ∈ P, ∃ k : Nat, x = k ∧ k < manyF n) (he : 0 ≤ c.ep ∧ c.ep < 1099511627776) : ∀ i, i ≤ P.length →
  (c.layP n P i).2 = 0 ∧ (c.layP n P i).1.down = false ∧ (c.layP n P i).1.armed = 0 ∧ (c.layP n P i).1.Ok n ∧ (c.layP n P i).1.calls ≤ c.d.calls + 4 * i ∧
   (∀ (j : Nat) (x : Int), j < i → P[j]? = some x → preadF (c.layP n P i).1 n x = (⟨x, c.ep + 1, 1, padL (Rt.partF (Rt.segF c.table j)) 232⟩, 0)) ∧ Calm n (fun j => ¬ InP P j) c.d (c.layP n P i).1
 | 0, _ => ⟨rfl, hd, ha, hok, by show c.d.calls ≤ _; omega, fun j x hj => by omega, .refl _⟩
 | i + 1, hi => by
  obtain ⟨h1, h2, h3, h4, h5, h6, h7⟩ := layP_good hd ha hok hP hr he i (by omega)
  obtain ⟨x, hx⟩ : ∃ x, P[i]? = some x := ⟨_, List.getElem?_eq_getElem (by omega)⟩
  have hxm := List.mem_of_getElem? hx
  obtain ⟨k, rfl, hk⟩ := hr x hxm
  have eD : P.getD i 0 = ((k : Nat) : Int) := by simp [List.getD, hx]
  rw [layP_succ, if_neg (by rw [h1]; decide), eD]
  obtain ⟨w1, w2, w3, w4, w5⟩ := write_read h4 h2 h3 k (c.ep + 1) 1 (Rt.partF (Rt.segF c.table i)) hk (by rw [okP_iff]; omega) (part_le _ _)
  have hb := (pwrite_bd (c.layP n P i).1 n ((k : Nat) : Int) (c.ep + 1) 1 (Rt.partF (Rt.segF c.table i)) (by rw [h3]; omega)).1
  refine ⟨w1, w2, w3, pwrite_okD h4 _ _ _ _, by omega, fun j y hj hy => ?_, h7.trans (calm_pwrite h4 _ _ _ _ (fun j a b hn => hn ⟨k, hxm, by omega, by omega⟩))⟩
  by_cases e : j = i
  ·subst e
   rw [hx] at hy
   injection hy with hy
   subst hy
   exact w4
  ·obtain ⟨k', rfl, hk'⟩ := hr y (List.mem_of_getElem? hy)
   rw [w5 k' hk' (fun e2 => e (by
    subst e2
    exact nodup_get hP hy hx))]
   exact h6 j _ (by omega) hy
theorem fill64 {b : List UInt8} (h : b.length = 64) : fillF b = b := fill_same b h
/-- all of a commit's laying -/
theorem layF_good {c : C} {n : Nat} (hd : c.d.down = false) (ha : c.d.armed = 0) (hok : c.d.Ok n) {P : List Nat} (hP : (Rt.natI P).Nodup) (hr : ∀ x ∈ Rt.natI P, ∃ k : Nat, x = k ∧ k < manyF n) (he : 0 ≤ c.ep ∧ c.ep < 1099511627776) (hn : 2 ≤ n) (hs : c.slot = 0 ∨ c.slot = 1) (h5 : P.length ≤ 5) :
  (c.layF n P).2 = 0 ∧ (c.layF n P).1.down = false ∧ (c.layF n P).1.armed = 0 ∧ (c.layF n P).1.Ok n ∧ (c.layF n P).1.calls ≤ c.d.calls + 4 * P.length + 3 ∧
   (∀ (j : Nat) (x : Int), (Rt.natI P)[j]? = some x → preadF (c.layF n P).1 n x = (⟨x, c.ep + 1, 1, padL (Rt.partF (Rt.segF c.table j)) 232⟩, 0)) ∧
   (∀ x : Nat, x < manyF n → (x : Int) ∉ Rt.natI P → preadF (c.layF n P).1 n x = preadF c.d n x) ∧
   sec (c.layF n P).1.now c.slot.toNat = sec c.d.now c.slot.toNat ∧ sec (c.layF n P).1.now (1 - c.slot).toNat = Rt.rootL (c.ep + 1) c.table.length P ∧ ∀ j, (c.layF n P).1.loose.getD j false = false := by
 obtain ⟨h1, h2, h3, h4, h6, h7, h8⟩ := layP_good hd ha hok hP hr he (Rt.natI P).length (Nat.le_refl _)
 have eL : (Rt.natI P).length = P.length := by simp [Rt.natI]
 rw [eL] at h1 h2 h3 h4 h6 h7 h8
 obtain ⟨d1, hd1⟩ : ∃ d1, (c.layP n (Rt.natI P) P.length) = (d1, 0) := ⟨_, by rw [← h1]⟩
 unfold C.layF
 rw [hd1] at h1 h2 h3 h4 h6 h7 h8 ⊢
 dsimp only at h1 h2 h3 h4 h6 h7 h8 ⊢
 obtain ⟨s1, s2, s3, s4⟩ := sync_fine h2 h3
 have s5 := (wsync_bd d1 (by rw [h3]; omega)).1
 have s6 : d1.syncF.1.Ok n := h4.sync
 have s7 := sync_loose s1
 rw [if_neg (by decide), if_neg (by rw [s1]; decide)]
 generalize d1.syncF.1 = d2 at *
 have hsn : (1 - c.slot).toNat < n := by omega
 have hsI : (1 - c.slot : Int) = (((1 - c.slot).toNat : Nat) : Int) := by omega
 rw [hsI]
 rw [show ((((1 - c.slot).toNat : Nat) : Int)).toNat = (1 - c.slot).toNat by omega]
 obtain ⟨s, hsd⟩ : ∃ s, s = (1 - c.slot).toNat := ⟨_, rfl⟩
 rw [← hsd] at hsn ⊢
 have hrl := Rt.rootL_length (c.ep + 1) c.table.length P h5
 obtain ⟨w1, w2, w3⟩ := write_fine (n := n) s2 s3 hsn (Rt.rootL (c.ep + 1) c.table.length P)
 have w4 := write_now s6 s hsn _ w1
 have w5 := (wwrite_bd d2 n s (Rt.rootL (c.ep + 1) c.table.length P) (by rw [s3]; omega)).1
 have w6 := s6.write (s : Int) (Rt.rootL (c.ep + 1) c.table.length P)
 rw [if_neg (by rw [w1]; decide)]
 generalize (d2.writeF n (s : Int) (Rt.rootL (c.ep + 1) c.table.length P)).1 = d3 at *
 obtain ⟨v1, v2, v3, v4⟩ := sync_fine w2 w3
 have v5 := (wsync_bd d3 (by rw [w3]; omega)).1
 have v6 := w6.sync
 have v7 := sync_loose v1
 have hpage : ∀ x : Nat, x < manyF n → preadF d3.syncF.1 n x = preadF d1 n x := fun x hx => pread_sec (by rw [v2, h2]) x hx (fun j a b => by
  have := many_le hx
  rw [v4, w4 j (by omega), if_neg (by omega), s4])
 refine ⟨v1, v2, v3, v6, by omega, fun j x hx => ?_, fun x hx hn => ?_, ?_, ?_, v7⟩
 ·obtain ⟨k, rfl, hk⟩ := hr x (List.mem_of_getElem? hx)
  rw [hpage k hk]
  exact h7 j _ (by have := (List.getElem?_eq_some_iff.1 hx).1; omega) hx
 ·rw [hpage x hx]
  exact pread_sec (by rw [h2, hd]) x hx (fun j a b => (h8 j (by have := many_le hx; omega) (fun ⟨y, hy, c1, c2⟩ => hn (by
   obtain rfl : y = x := by omega
   exact hy))).1)
 ·rw [v4, w4 _ (by omega), if_neg (by omega), s4]
  exact (h8 _ (by omega) (fun ⟨y, hy, c1, c2⟩ => by omega)).1
 ·rw [v4, w4 _ (by omega), if_pos rfl, fill64 hrl]
end Go.Proofs.YtbelcgjbhpjnpaaGreat.Sh

/- the healthy store: what a commit answers, and what it leaves. -/
namespace Go.Proofs.YtbelcgjbhpjnpaaGreat.Sh
open Go.RowKit Pk Dk Pg
theorem natI_back {P : List Int} (h : ∀ x ∈ P, 0 ≤ x) : Rt.natI (P.map Int.toNat) = P := by
 unfold Rt.natI
 rw [List.map_map]
 exact (List.map_congr_left (fun x hx => by have := h x hx; exact Int.toNat_of_nonneg this)).trans (List.map_id _)
theorem trim_abs (c : C) (n : Nat) : ∀ k, k ≤ c.table.length → trimN (c.absF n).now k = trimT c.table k
 | 0, _ => rfl
 | k + 1, h => by
  unfold trimN
  rw [trimT_succ, trim_abs c n k (by omega)]
  have e : ((c.absF n).now[k]?).getD none = c.slotOf n (c.table.getD k 0) := by
   unfold C.absF
   rw [List.getElem?_map]
   simp only [List.getD]
   rw [List.getElem?_eq_getElem (by omega)]
   rfl
  rw [e]
  unfold C.slotOf
  by_cases hx : c.table.getD k 0 < 0
  ·rw [if_pos hx, if_pos hx, if_neg (by simp)]
  ·rw [if_neg hx, if_neg hx, if_pos (by simp)]
theorem next_abs (c : C) (n : Nat) : (c.absF n).nextF = c.trimF.table.map (fun x => if x < 0 then none else some (preadF c.d n x).1.s) := by
 unfold St.nextF
 have hl : (c.absF n).now.length = c.table.length := by unfold C.absF; simp
 rw [hl, trim_abs c n _ (Nat.le_refl _)]
 show ((c.table.map (c.slotOf n)).take _).map _ = (c.table.take _).map _
 rw [← List.map_take, List.map_map]
 refine List.map_congr_left (fun x _ => ?_)
 simp only [Function.comp, C.slotOf]
 split <;> rfl
theorem nodup_inj {P : List Int} (h : P.Nodup) : Inj P := fun _ _ _ hi hj _ => nodup_get h hi hj
theorem inj_nodup {P : List Int} (h : Inj P) (h0 : ∀ x ∈ P, 0 ≤ x) : P.Nodup := by
 have := ids_nodup h
 rwa [show ids P = P from List.filter_eq_self.2 (fun x hx => by simpa using h0 x hx)] at this
theorem right_of {ep : Int} {k : Nat} {P : List Int} (he : 0 ≤ ep ∧ ep < 1099511627776) (hk : k ≤ 512) (hl : P.length = needT k) (hn : P.Nodup) (hr : ∀ x ∈ P, 0 ≤ x ∧ x ≤ 1023) : Rt.rightR (ep + 1) (k : Nat) P := by
 refine ⟨by omega, by omega, by omega, by omega, by rw [hl, needF_T], fun i x hx => ?_⟩
 obtain ⟨h0, h1⟩ := hr x (List.mem_of_getElem? hx)
 refine ⟨h0, h1, fun hm => ?_⟩
 obtain ⟨j, hj⟩ := List.getElem?_of_mem hm
 have hji := (List.getElem?_eq_some_iff.1 hj).1
 rw [List.length_take] at hji
 have := nodup_inj hn j i x (get_take hj) hx h0
 omega
/-- what a commit takes -/
theorem commit_takes {c : C} {n : Nat} (g : Good c n) (tl : c.table.length ≤ 512) (hf : needT c.trimF.table.length ≤ (Fm.listF c.m 0).length) :
  ∃ mT P, takeN c.m (needT c.trimF.table.length) = (mT, P) ∧ mT.length = c.m.length ∧ P.Nodup ∧ P.length = needT c.trimF.table.length ∧ (∀ x ∈ P, ∃ i : Nat, x = i ∧ i < c.m.length ∧ i ≤ 1023 ∧ x ∉ c.parts ∧ x ∉ c.old ∧ x ∉ c.table) ∧
   (∀ i : Nat, i < c.m.length → mT.getD i 0 = if (i : Int) ∈ P then 2 else kindOf c i) ∧ Rt.natI (P.map Int.toNat) = P ∧ Rt.rightR (c.ep + 1) (c.trimF.table.length : Nat) P := by
 obtain ⟨h1, h2, h3, h4⟩ := takeN_spec c.m _ hf
 have hl := takeN_len c.m (needT c.trimF.table.length)
 have hm : c.m.length ≤ 1024 := by rw [g.ml]; unfold pagesF; omega
 have hb : ∀ x ∈ (takeN c.m (needT c.trimF.table.length)).2, ∃ i : Nat, x = i ∧ i < c.m.length ∧ i ≤ 1023 ∧ x ∉ c.parts ∧ x ∉ c.old ∧ x ∉ c.table := fun x hx => by
  obtain ⟨i, rfl, hi, h0⟩ := h3 x hx
  rw [g.md i hi] at h0
  obtain ⟨z1, z2, z3⟩ := kind0 h0
  exact ⟨i, rfl, hi, by omega, z1, z2, z3⟩
 have h0 : ∀ x ∈ (takeN c.m (needT c.trimF.table.length)).2, 0 ≤ x ∧ x ≤ 1023 := fun x hx => by
  obtain ⟨i, rfl, hi, hi2, _⟩ := hb x hx
  omega
 have ht : c.trimF.table.length ≤ 512 := by
  show (c.table.take _).length ≤ 512
  rw [List.length_take]; omega
 have hep := g.ep
 exact ⟨_, _, rfl, h1, h2, hl, hb, fun i hi => by rw [h4 i hi, g.md i hi], natI_back (fun x hx => (h0 x hx).1), right_of (by omega) ht hl h2 h0⟩
theorem rooted_nat {d : D} {n : Nat} {ep slot : Int} {old parts : List Int} (R : Rooted d n ep slot old parts) : Rt.natI (parts.map Int.toNat) = parts := natI_back (fun x hx => by
 obtain ⟨i, hi⟩ := List.getElem?_of_mem hx
 exact (R.ro.2.2.2.2.2 i x hi).1)
theorem root_twin {ep : Int} {k : Nat} {P : List Int} (hr : Rt.rightR ep (k : Nat) P) (hP : Rt.natI (P.map Int.toNat) = P) : (Rt.rootL ep k (P.map Int.toNat)).take 8 = (Rt.rootL ep k (P.map Int.toNat)).drop 56 ∧ Rt.decEp (Rt.rootL ep k (P.map Int.toNat)) = ep := by
 have h5 : (P.map Int.toNat).length ≤ 5 := by have := Rt.rightR_len hr; simpa using this
 exact ⟨by rw [Rt.rootL_take, Rt.rootL_last _ _ _ h5], (Rt.dec_root ep k _ (by rw [hP]; exact hr)).1⟩
def C.doneF (c : C) (d : D) (mT P : List Int) : C := { c.trimF with m := Fm.turnF 0 1 (leaveAll mT c.parts), d := d, old := c.trimF.table, parts := P, ep := c.ep + 1, slot := 1 - c.slot }
theorem commit_full {c : C} {n : Nat} (g : Good c n) (hf : (c.absF n).free < needT (c.absF n).nextF.length) : c.commitF n = (c.trimF, 11) := by
 unfold C.commitF
 rw [(free_count g).1, if_pos (by rw [next_abs] at hf; simpa using hf)]
/-- what a commit leaves, on a disk on which all was laid -/
theorem done_good {c : C} {n : Nat} (g : Good c n) (R : Rooted c.d n c.ep c.slot c.old c.parts) (he : c.ep < 1099511627775) (tl : c.table.length ≤ 512) {mT P : List Int} (hT : takeN c.m (needT c.trimF.table.length) = (mT, P)) (hf : needT c.trimF.table.length ≤ (Fm.listF c.m 0).length)
  {d' : D} (hd : d' = (({ c.trimF with m := mT } : C).layF n (P.map Int.toNat)).1) :
  (({ c.trimF with m := mT } : C).layF n (P.map Int.toNat)).2 = 0 ∧ Good (c.doneF d' mT P) n ∧ Rooted d' n (c.ep + 1) (1 - c.slot) c.trimF.table P ∧ Twin d' (1 - c.slot) (c.ep + 1) ∧ d'.calls ≤ c.d.calls + 30 ∧
   (c.doneF d' mT P).absF n = { c.absF n with now := oldS (c.absF n).nextF, old := (c.absF n).nextF, ep := (c.absF n).ep + 1 } := by
 obtain ⟨mT', P', e, t1, t2, t3, t4, t5, t6, t7⟩ := commit_takes g tl hf
 rw [hT] at e
 obtain ⟨rfl, rfl⟩ : mT = mT' ∧ P = P' := ⟨congrArg Prod.fst e, congrArg Prod.snd e⟩
 clear e
 have hep := g.ep
 have n2 := R.n2
 have h5 : P.length ≤ 5 := Rt.rightR_len t7
 obtain ⟨f1, f2, f3, f4, f5, f6, f7, f8, f9, f10⟩ := layF_good (c := { c.trimF with m := mT }) (n := n) (P := P.map Int.toNat) g.up g.arm g.ok (by rw [t6]; exact t2) (fun x hx => by
  rw [t6] at hx
  obtain ⟨i, e, hi, _⟩ := t4 x hx
  exact ⟨i, e, page_many g hi⟩) (show 0 ≤ c.ep ∧ c.ep < 1099511627776 by omega) n2 g.sl (by rw [List.length_map]; exact h5)
 rw [← hd] at f2 f3 f4 f5 f6 f7 f8 f9 f10
 rw [t6] at f6 f7
 rw [List.length_map] at f5
 refine ⟨f1, ?_, ?_, ?_, by have : d'.calls ≤ c.d.calls + 4 * P.length + 3 := f5; omega, ?_⟩
 ·have gt := (trim_good g).1
  have hsame : ∀ x : Int, x ∈ c.table → 0 ≤ x → preadF d' n x = preadF c.d n x := fun x hx h0 => by
   have hti := g.ti x hx
   have := f7 x.toNat (page_many g (by omega)) (fun hm => by
    rw [show ((x.toNat : Nat) : Int) = x by omega] at hm
    obtain ⟨_, _, _, _, _, _, h⟩ := t4 x hm
    exact h hx)
   rwa [show ((x.toNat : Nat) : Int) = x by omega] at this
  obtain ⟨v1, v2⟩ := leaveAll_spec c.parts mT (inj_nodup g.pj (fun x hx => (g.pi x hx).1)) (fun x hx => by
   have := g.pi x hx
   refine ⟨x.toNat, by omega, by omega, ?_⟩
   rw [t5 x.toNat (by omega), show ((x.toNat : Nat) : Int) = x by omega, if_neg (fun hm => by
    obtain ⟨_, _, _, _, h, _⟩ := t4 x hm
    exact h hx)]
   unfold kindOf
   rw [if_pos hx])
  have hml : (c.doneF d' mT P).m.length = c.m.length := by
   show (Fm.turnF 0 1 (leaveAll mT c.parts)).length = _
   rw [Fm.turnF_length, v1, t1]
  refine ⟨f2, f3, g.br, f4, hml.trans g.ml, (by show 1 ≤ c.ep + 1 ∧ c.ep + 1 < 1099511627776; omega), (by show 1 - c.slot = 0 ∨ 1 - c.slot = 1; have := g.sl; omega), by rw [hml]; exact gt.ti, by rw [hml]; exact gt.ti, fun x hx => ?_, gt.tj, gt.tj, nodup_inj t2, fun x hx => ?_, t3, fun i x hi _ _ => hi, fun i hi => ?_, fun x hx h0 => ?_, fun x hx h0 => ?_⟩
  ·obtain ⟨i, rfl, hi, _⟩ := t4 x hx
   rw [hml]; omega
  ·obtain ⟨_, _, _, _, _, _, h⟩ := t4 x hx
   exact ⟨fun hm => h (List.mem_of_mem_take hm), fun hm => h (List.mem_of_mem_take hm)⟩
  ·rw [hml] at hi
   show (Fm.turnF 0 1 (leaveAll mT c.parts)).getD i 0 = _
   rw [turn_get _ _ _ _ (by omega), v2 i (by omega), t5 i hi]
   have hk : kindOf (c.doneF d' mT P) i = if (i : Int) ∈ P then 1 else if (i : Int) ∈ c.trimF.table then 1 else 0 := by
    show (if (i : Int) ∈ P then 1 else if (i : Int) ∈ c.trimF.table then (if (i : Int) ∈ c.trimF.table then 1 else 3) else if (i : Int) ∈ c.trimF.table then 2 else 0 : Int) = _
    by_cases h1 : (i : Int) ∈ P
    ·rw [if_pos h1, if_pos h1]
    ·by_cases h2 : (i : Int) ∈ c.trimF.table
     ·simp only [h1, h2, if_true, if_false]
     ·simp only [h1, h2, if_false]
   rw [hk]
   have hmt : (i : Int) ∈ c.trimF.table ↔ (i : Int) ∈ c.table := mem_trim (by omega)
   simp only [hmt]
   by_cases hp : (i : Int) ∈ c.parts
   ·rw [if_pos hp, if_neg (fun hm => by
     obtain ⟨_, _, _, _, h, _⟩ := t4 _ hm
     exact h hp), if_neg (g.dt _ hp).1]
    rfl
   ·rw [if_neg hp]
    by_cases hP : (i : Int) ∈ P
    ·rw [if_pos hP, if_pos hP]; rfl
    ·rw [if_neg hP, if_neg hP]
     unfold kindOf
     rw [if_neg hp]
     by_cases h1 : (i : Int) ∈ c.old <;> by_cases h2 : (i : Int) ∈ c.table <;> simp only [h1, h2, if_true, if_false] <;> rfl
  ·have hx := List.mem_of_mem_take hx
   obtain ⟨q, s, q1, q2, q3, q4⟩ := g.rt x hx h0
   exact ⟨q, s, q1, by show q ≤ c.ep + 1 + 1; omega, q3, (hsame x hx h0).trans q4⟩
  ·have hx := List.mem_of_mem_take hx
   obtain ⟨q, s, q1, q2, q3, q4⟩ := g.rt x hx h0
   exact ⟨q, s, q1, q2, q3, (hsame x hx h0).trans q4⟩
 ·refine ⟨n2, t7, by have := g.sl; omega, f9, fun _ => ?_, fun i x hx => ?_, fun j _ _ => f10 j⟩
  ·rw [show (1 - (1 - c.slot)).toNat = c.slot.toNat by congr 1; omega]
   show Rt.decEp (sec d'.now c.slot.toNat) < _
   have f8' : sec d'.now c.slot.toNat = sec c.d.now c.slot.toNat := f8
   rw [f8', R.rt, (root_twin R.ro (rooted_nat R)).2]
   omega
  ·refine ⟨c.ep + 1, by omega, Int.le_refl _, ?_⟩
   rw [upD_eq f2]
   exact f6 i x hx
 ·unfold Twin
  rw [show (1 - (1 - c.slot)).toNat = c.slot.toNat by congr 1; omega]
  have f8' : sec d'.now c.slot.toNat = sec c.d.now c.slot.toNat := f8
  rw [f8', R.rt, (root_twin R.ro (rooted_nat R)).2]
  exact ⟨(root_twin R.ro (rooted_nat R)).1, by omega⟩
 ·obtain ⟨v1, _⟩ := leaveAll_spec c.parts mT (inj_nodup g.pj (fun x hx => (g.pi x hx).1)) (fun x hx => by
   have := g.pi x hx
   refine ⟨x.toNat, by omega, by omega, ?_⟩
   rw [t5 x.toNat (by omega), show ((x.toNat : Nat) : Int) = x by omega, if_neg (fun hm => by
    obtain ⟨_, _, _, _, h, _⟩ := t4 x hm
    exact h hx)]
   unfold kindOf
   rw [if_pos hx])
  have hml : (c.doneF d' mT P).m.length = c.m.length := by
   show (Fm.turnF 0 1 (leaveAll mT c.parts)).length = _
   rw [Fm.turnF_length, v1, t1]
  have hs : ∀ x ∈ c.trimF.table, ¬ x < 0 → (preadF d' n x).1.s = (preadF c.d n x).1.s := fun x hx h0 => by
   have hx := List.mem_of_mem_take hx
   have hti := g.ti x hx
   have := f7 x.toNat (page_many g (by omega)) (fun hm => by
    rw [show ((x.toNat : Nat) : Int) = x by omega] at hm
    obtain ⟨_, _, _, _, _, _, h⟩ := t4 x hm
    exact h hx)
   rw [show ((x.toNat : Nat) : Int) = x by omega] at this
   rw [this]
   rfl
  rw [next_abs]
  unfold C.absF
  rw [hml]
  simp only [St.mk.injEq, true_and]
  refine ⟨?_, ?_, rfl⟩
  ·show c.trimF.table.map (C.slotOf (c.doneF d' mT P) n) = oldS (c.trimF.table.map _)
   unfold oldS
   rw [List.map_map]
   refine List.map_congr_left (fun x hx => ?_)
   unfold C.slotOf
   simp only [Function.comp]
   by_cases h : x < 0
   ·rw [if_pos h, if_pos h]; rfl
   ·rw [if_neg h, if_neg h]
    show some (decide (x ∉ c.trimF.table), (preadF d' n x).1.s) = some (false, (preadF c.d n x).1.s)
    rw [hs x hx h]
    simp [hx]
  ·show c.trimF.table.map _ = c.trimF.table.map _
   refine List.map_congr_left (fun x hx => ?_)
   by_cases h : x < 0
   ·rw [if_pos h, if_pos h]
   ·rw [if_neg h, if_neg h]
    show some (preadF d' n x).1.s = _
    rw [hs x hx h]
theorem commit_good {c : C} {n : Nat} (g : Good c n) (R : Rooted c.d n c.ep c.slot c.old c.parts) (he : c.ep < 1099511627775) (tl : c.table.length ≤ 512) (hf : ¬ (c.absF n).free < needT (c.absF n).nextF.length) :
  ∃ c', c.commitF n = (c', 0) ∧ Good c' n ∧ Rooted c'.d n c'.ep c'.slot c'.old c'.parts ∧ Twin c'.d c'.slot c'.ep ∧ c'.d.calls ≤ c.d.calls + 30 ∧ c'.absF n = { c.absF n with now := oldS (c.absF n).nextF, old := (c.absF n).nextF, ep := (c.absF n).ep + 1 } ∧ c'.table = c.trimF.table ∧ c'.ep = c.ep + 1 := by
 have hf2 : ¬ (Fm.listF c.m 0).length < needT c.trimF.table.length := by rw [(free_count g).1]; rw [next_abs] at hf; simpa using hf
 obtain ⟨mT, P, hT, _⟩ := commit_takes g tl (by omega)
 obtain ⟨h1, h2, h3, h4, h5, h6⟩ := done_good g R he tl hT (by omega) rfl
 refine ⟨c.doneF _ mT P, ?_, h2, h3, h4, h5, h6, rfl, rfl⟩
 unfold C.commitF
 rw [if_neg hf2, if_neg (by omega), hT]
 dsimp only
 rw [if_neg (by rw [h1]; decide)]
 rfl
end Go.Proofs.YtbelcgjbhpjnpaaGreat.Sh
