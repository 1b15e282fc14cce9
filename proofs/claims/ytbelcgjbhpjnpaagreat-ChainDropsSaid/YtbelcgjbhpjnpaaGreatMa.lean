/- the healthy store: lists of page numbers, plainly. -/
import Derived.Test.YtbelcgjbhpjnpaaGreatSa
set_option linter.all false
set_option linter.unusedVariables false
set_option linter.unusedSimpArgs false
set_option maxRecDepth 100000
namespace Go.Proofs.YtbelcgjbhpjnpaaGreat.Sh
open Go.RowKit Pk Dk Pg
theorem nodup_le : ∀ (L M : List Int), L.Nodup → (∀ x ∈ L, x ∈ M) → L.length ≤ M.length
 | [], _, _, _ => Nat.zero_le _
 | x :: L, M, hn, hs => by
  obtain ⟨h1, h2⟩ := List.nodup_cons.1 hn
  have hx : x ∈ M := hs x (List.mem_cons_self ..)
  have := nodup_le L (M.erase x) h2 (fun y hy => (List.mem_erase_of_ne (fun e : y = x => h1 (by rw [← e]; exact hy))).2 (hs y (List.mem_cons_of_mem _ hy)))
  rw [List.length_erase_of_mem hx] at this
  have : 0 < M.length := List.length_pos_of_mem hx
  simp; omega
theorem nodup_eq {L M : List Int} (hl : L.Nodup) (hm : M.Nodup) (h : ∀ x, x ∈ L ↔ x ∈ M) : L.length = M.length :=
 Nat.le_antisymm (nodup_le L M hl (fun x hx => (h x).1 hx)) (nodup_le M L hm (fun x hx => (h x).2 hx))
theorem mem_listTo (l : List Int) (k : Int) (n : Nat) (x : Int) : x ∈ Fm.listTo l k n ↔ ∃ i : Nat, x = i ∧ i < n ∧ l.getD i 0 = k := by
 induction n with
 | zero => simp [Fm.listTo]
 | succ n ih =>
  simp only [Fm.listTo, List.mem_append, ih]
  constructor
  ·rintro (⟨i, e, h, g⟩ | h)
   ·exact ⟨i, e, by omega, g⟩
   ·by_cases hk : l.getD n 0 = k
    ·rw [if_pos hk] at h
     exact ⟨n, by simpa using h, by omega, hk⟩
    ·rw [if_neg hk] at h
     simp at h
  ·rintro ⟨i, e, h, g⟩
   rcases Nat.lt_succ_iff_lt_or_eq.1 h with h | rfl
   ·exact .inl ⟨i, e, h, g⟩
   ·rw [if_pos g]; exact .inr (by simpa using e)
theorem mem_listF {l : List Int} {k : Int} {x : Int} : x ∈ Fm.listF l k ↔ ∃ i : Nat, x = i ∧ i < l.length ∧ l.getD i 0 = k := mem_listTo l k l.length x
theorem nodup_listTo (l : List Int) (k : Int) (n : Nat) : (Fm.listTo l k n).Nodup := by
 induction n with
 | zero => exact List.nodup_nil
 | succ n ih =>
  simp only [Fm.listTo]
  split
  ·rw [List.nodup_append]
   refine ⟨ih, by simp, fun a ha b hb e => ?_⟩
   obtain ⟨i, e1, h, _⟩ := (mem_listTo l k n a).1 ha
   simp at hb
   omega
  ·simpa using ih
theorem nodup_listF (l : List Int) (k : Int) : (Fm.listF l k).Nodup := nodup_listTo l k l.length
/-- 0 .. n-1 -/
def upto : Nat → List Int
 | 0 => []
 | n + 1 => upto n ++ [(n : Int)]
theorem upto_length : ∀ n, (upto n).length = n
 | 0 => rfl
 | n + 1 => by simp [upto, upto_length n]
theorem mem_upto (n : Nat) (x : Int) : x ∈ upto n ↔ 0 ≤ x ∧ x < n := by
 induction n with
 | zero => simp [upto]; try omega
 | succ n ih => simp only [upto, List.mem_append, ih, List.mem_singleton]; omega
theorem nodup_upto (n : Nat) : (upto n).Nodup := by
 induction n with
 | zero => exact List.nodup_nil
 | succ n ih =>
  simp only [upto]
  rw [List.nodup_append]
  refine ⟨ih, by simp, fun a ha b hb e => ?_⟩
  have := (mem_upto n a).1 ha
  simp at hb
  omega
/-- no page number stands twice -/
def Inj (t : List Int) : Prop := ∀ (i j : Nat) (x : Int), t[i]? = some x → t[j]? = some x → 0 ≤ x → i = j
def ids (t : List Int) : List Int := t.filter (fun x => decide (0 ≤ x))
theorem mem_ids {t : List Int} {x : Int} : x ∈ ids t ↔ x ∈ t ∧ 0 ≤ x := by simp [ids]
theorem Inj.tail {x : Int} {t : List Int} (h : Inj (x :: t)) : Inj t := fun i j y hi hj h0 => by
 have := h (i + 1) (j + 1) y (by simpa using hi) (by simpa using hj) h0
 omega
theorem ids_nodup : ∀ {t : List Int}, Inj t → (ids t).Nodup
 | [], _ => List.nodup_nil
 | x :: t, h => by
  have ih := ids_nodup h.tail
  unfold ids at ih ⊢
  rw [List.filter_cons]
  split
  ·rename_i hx
   rw [List.nodup_cons]
   refine ⟨fun hm => ?_, ih⟩
   obtain ⟨hm, _⟩ := mem_ids.1 hm
   obtain ⟨k, hk⟩ := List.getElem?_of_mem hm
   have := h 0 (k + 1) x rfl (by simpa using hk) (by simpa using hx)
   omega
  ·exact ih
theorem Inj.set_ {t : List Int} (h : Inj t) (k : Nat) (u : Int) (hu : u < 0 ∨ u ∉ t) : Inj (t.set k u) := by
 intro i j x hi hj h0
 rw [List.getElem?_set] at hi hj
 by_cases e1 : k = i <;> by_cases e2 : k = j
 ·omega
 ·rw [if_pos e1] at hi
  rw [if_neg e2] at hj
  split at hi
  ·injection hi with hi
   subst hi
   rcases hu with hu | hu
   ·omega
   ·exact absurd (List.mem_of_getElem? hj) hu
  ·cases hi
 ·rw [if_neg e1] at hi
  rw [if_pos e2] at hj
  split at hj
  ·injection hj with hj
   subst hj
   rcases hu with hu | hu
   ·omega
   ·exact absurd (List.mem_of_getElem? hi) hu
  ·cases hj
 ·rw [if_neg e1] at hi
  rw [if_neg e2] at hj
  exact h i j x hi hj h0
theorem Inj.app {t : List Int} (h : Inj t) (u : Int) (hu : u < 0 ∨ u ∉ t) : Inj (t ++ [u]) := by
 intro i j x hi hj h0
 have key : ∀ i, (t ++ [u])[i]? = some x → (t[i]? = some x) ∨ (i = t.length ∧ x = u) := by
  intro i hi
  rcases Nat.lt_trichotomy i t.length with hl | rfl | hl
  ·rw [List.getElem?_append_left hl] at hi; exact .inl hi
  ·rw [List.getElem?_append_right (Nat.le_refl _)] at hi
   simp at hi
   exact .inr ⟨rfl, hi.symm⟩
  ·rw [List.getElem?_append_right (by omega), List.getElem?_eq_none (by simp; omega)] at hi; cases hi
 rcases key i hi with a | ⟨a, b⟩ <;> rcases key j hj with c | ⟨c, d⟩
 ·exact h i j x a c h0
 ·subst d
  rcases hu with hu | hu
  ·omega
  ·exact absurd (List.mem_of_getElem? a) hu
 ·subst b
  rcases hu with hu | hu
  ·omega
  ·exact absurd (List.mem_of_getElem? c) hu
 ·omega
theorem mem_set_iff {t : List Int} {k : Nat} {u x : Int} (h : Inj t) (hk : t[k]? = some u) (v : Int) (h0 : 0 ≤ x) (hv : v < 0) (hu : 0 ≤ u) : x ∈ t.set k v ↔ x ∈ t ∧ x ≠ u := by
 constructor
 ·intro hx
  obtain ⟨i, hi⟩ := List.getElem?_of_mem hx
  rw [List.getElem?_set] at hi
  by_cases e : k = i
  ·rw [if_pos e] at hi
   split at hi
   ·injection hi with hi; omega
   ·cases hi
  ·rw [if_neg e] at hi
   refine ⟨List.mem_of_getElem? hi, fun e2 => e ?_⟩
   subst e2
   exact h k i x hk hi h0
 ·rintro ⟨hx, hne⟩
  obtain ⟨i, hi⟩ := List.getElem?_of_mem hx
  have : (t.set k v)[i]? = some x := by
   rw [List.getElem?_set, if_neg (fun e => hne (by subst e; rw [hk] at hi; injection hi with hi; exact hi.symm))]
   exact hi
  exact List.mem_of_getElem? this
end Go.Proofs.YtbelcgjbhpjnpaaGreat.Sh

/- the healthy store: what it holds, as the document has it. -/
namespace Go.Proofs.YtbelcgjbhpjnpaaGreat.Sh
open Go.RowKit Pk Dk Pg
structure St where
 many : Nat
 now : List (Option (Bool × List UInt8))
 old : List (Option (List UInt8))
 ep : Int
def isFresh : Option (Bool × List UInt8) → Bool
 | some (b, _) => b
 | none => false
def needT (k : Nat) : Nat := (k + 115) / 116
def St.fresh (a : St) : Nat := a.now.countP isFresh
def St.kept (a : St) : Nat := a.old.countP Option.isSome + needT a.old.length
def St.free (a : St) : Nat := a.many - a.kept - a.fresh
def St.slot (a : St) : Nat := a.now.findIdx Option.isNone
def putS {α : Type} (t : List α) (l : Nat) (u : α) : List α := if l = t.length then t ++ [u] else t.set l u
def St.at (a : St) (l : Int) : Option (Bool × List UInt8) := if 0 ≤ l then (a.now[l.toNat]?).getD none else none
def St.newF (a : St) (p : List UInt8) : St × Int × Int :=
 if 232 < p.length then (a, 0, 4)
 else if 512 ≤ a.slot ∨ a.free = 0 then (a, 0, 11)
 else ({ a with now := putS a.now a.slot (some (true, padL p 232)) }, (a.slot : Nat), 0)
def St.dropF (a : St) (l : Int) : St × Int := if (a.at l).isSome = true then ({ a with now := a.now.set l.toNat none }, 0) else (a, 3)
def St.readF (a : St) (l : Int) : List UInt8 × Int := match a.at l with
 | some (_, b) => (b, 0)
 | none => ([], 3)
/-- a page of data lies there -/
def PageOk (d : D) (n : Nat) (x ep : Int) : Prop := ∃ q s, 0 ≤ q ∧ q ≤ ep ∧ s.length = 232 ∧ preadF d n x = (⟨x, q, 2, s⟩, 0)
def kindOf (c : C) (x : Int) : Int := if x ∈ c.parts then 1 else if x ∈ c.old then (if x ∈ c.table then 1 else 3) else if x ∈ c.table then 2 else 0
structure Good (c : C) (n : Nat) : Prop where
 up : c.d.down = false
 arm : c.d.armed = 0
 br : c.broken = false
 ok : c.d.Ok n
 ml : c.m.length = pagesF n
 ep : 1 ≤ c.ep ∧ c.ep < 1099511627776
 sl : c.slot = 0 ∨ c.slot = 1
 ti : ∀ x ∈ c.table, x = -1 ∨ (0 ≤ x ∧ x < c.m.length)
 oi : ∀ x ∈ c.old, x = -1 ∨ (0 ≤ x ∧ x < c.m.length)
 pi : ∀ x ∈ c.parts, 0 ≤ x ∧ x < c.m.length
 tj : Inj c.table
 oj : Inj c.old
 pj : Inj c.parts
 dt : ∀ x ∈ c.parts, x ∉ c.table ∧ x ∉ c.old
 pl : c.parts.length = needT c.old.length
 sm : ∀ (i : Nat) (x : Int), c.table[i]? = some x → 0 ≤ x → x ∈ c.old → c.old[i]? = some x
 md : ∀ i : Nat, i < c.m.length → c.m.getD i 0 = kindOf c i
 rt : ∀ x ∈ c.table, 0 ≤ x → PageOk c.d n x (c.ep + 1)
 ro : ∀ x ∈ c.old, 0 ≤ x → PageOk c.d n x c.ep
def C.slotOf (c : C) (n : Nat) (x : Int) : Option (Bool × List UInt8) := if x < 0 then none else some (decide (x ∉ c.old), (preadF c.d n x).1.s)
def C.absF (c : C) (n : Nat) : St := { many := c.m.length, now := c.table.map (c.slotOf n), old := c.old.map fun x => if x < 0 then none else some (preadF c.d n x).1.s, ep := c.ep }
/-- what is free is counted -/
theorem free_count {c : C} {n : Nat} (g : Good c n) : (Fm.listF c.m 0).length = (c.absF n).free ∧ (c.absF n).fresh + (c.absF n).kept ≤ c.m.length := by
 obtain ⟨F, hF⟩ : ∃ F, F = (ids c.table).filter (fun x => decide (x ∉ c.old)) := ⟨_, rfl⟩
 have hFl : F.length = (c.absF n).fresh := by
  rw [hF]
  unfold St.fresh C.absF ids
  rw [List.filter_filter, ← List.countP_eq_length_filter, List.countP_map]
  apply List.countP_congr
  intro x hx
  simp only [Function.comp, C.slotOf]
  by_cases h : x < 0
  ·rw [if_pos h]; simp [isFresh]; omega
  ·rw [if_neg h]; simp [isFresh]; omega
 have hKl : (c.parts ++ ids c.old).length = (c.absF n).kept := by
  unfold St.kept C.absF ids
  rw [List.length_append, g.pl, ← List.countP_eq_length_filter, List.countP_map, List.length_map]
  have : c.old.countP (fun x => decide (0 ≤ x)) = c.old.countP (Option.isSome ∘ fun x => if x < 0 then none else some (preadF c.d n x).1.s) := by
   apply List.countP_congr
   intro x hx
   simp only [Function.comp]
   by_cases h : x < 0
   ·rw [if_pos h]; simp; omega
   ·rw [if_neg h]; simp; omega
  omega
 have hmF : ∀ x, x ∈ F ↔ x ∈ c.table ∧ 0 ≤ x ∧ x ∉ c.old := by
  intro x
  rw [hF, List.mem_filter, mem_ids]
  simp [and_assoc]
 have hnd : (Fm.listF c.m 0 ++ F ++ (c.parts ++ ids c.old)).Nodup := by
  rw [List.nodup_append, List.nodup_append, List.nodup_append]
  have hp : c.parts.Nodup := by
   have := ids_nodup g.pj
   rwa [show ids c.parts = c.parts from List.filter_eq_self.2 (fun x hx => by simpa using (g.pi x hx).1)] at this
  refine ⟨⟨nodup_listF _ _, ?_, ?_⟩, ⟨hp, ids_nodup g.oj, ?_⟩, ?_⟩
  ·rw [hF]; exact (ids_nodup g.tj).sublist List.filter_sublist
  ·intro x hx y hy e
   subst e
   obtain ⟨i, rfl, hi, h0⟩ := mem_listF.1 hx
   rw [g.md i hi] at h0
   obtain ⟨h1, h2, h3⟩ := (hmF _).1 hy
   unfold kindOf at h0
   rw [if_neg h3, if_pos h1] at h0
   split at h0 <;> omega
  ·intro x hx y hy e
   subst e
   exact (g.dt x hx).2 (mem_ids.1 hy).1
  ·intro x hx y hy e
   subst e
   rcases List.mem_append.1 hx with hx | hx
   ·obtain ⟨i, rfl, hi, h0⟩ := mem_listF.1 hx
    rw [g.md i hi] at h0
    unfold kindOf at h0
    rcases List.mem_append.1 hy with hy | hy
    ·rw [if_pos hy] at h0; omega
    ·rw [if_pos (mem_ids.1 hy).1] at h0
     split at h0
     ·omega
     ·split at h0 <;> omega
   ·obtain ⟨h1, h2, h3⟩ := (hmF _).1 hx
    rcases List.mem_append.1 hy with hy | hy
    ·exact (g.dt x hy).1 h1
    ·exact h3 (mem_ids.1 hy).1
 have hlen := nodup_eq hnd (nodup_upto c.m.length) (fun x => by
  rw [mem_upto, List.mem_append, List.mem_append, List.mem_append, mem_listF, hmF, mem_ids]
  constructor
  ·rintro ((⟨i, rfl, hi, _⟩ | ⟨h1, h2, _⟩) | (h | ⟨h1, h2⟩))
   ·omega
   ·have := g.ti x h1; omega
   ·exact g.pi x h
   ·have := g.oi x h1; omega
  ·rintro ⟨h0, h1⟩
   by_cases a1 : x ∈ c.parts
   ·exact .inr (.inl a1)
   by_cases a2 : x ∈ c.old
   ·exact .inr (.inr ⟨a2, h0⟩)
   by_cases a3 : x ∈ c.table
   ·exact .inl (.inr ⟨a3, h0, a2⟩)
   refine .inl (.inl ⟨x.toNat, by omega, by omega, ?_⟩)
   rw [g.md _ (by omega), show ((x.toNat : Nat) : Int) = x by omega]
   unfold kindOf
   rw [if_neg a1, if_neg a2, if_neg a3])
 rw [upto_length, List.length_append, List.length_append, hKl, hFl] at hlen
 refine ⟨?_, by omega⟩
 unfold St.free
 show _ = c.m.length - _ - _
 omega
end Go.Proofs.YtbelcgjbhpjnpaaGreat.Sh

/- the healthy store: a page is made. -/
namespace Go.Proofs.YtbelcgjbhpjnpaaGreat.Sh
open Go.RowKit Pk Dk Pg
theorem findIdx_via {α β : Type} (f : α → β) (p : β → Bool) (q : α → Bool) : ∀ (t : List α), (∀ x ∈ t, p (f x) = q x) → (t.map f).findIdx p = t.findIdx q
 | [], _ => rfl
 | x :: t, h => by
  have h0 := h x (List.mem_cons_self ..)
  have ih := findIdx_via f p q t (fun y hy => h y (List.mem_cons_of_mem _ hy))
  rw [List.map_cons, List.findIdx_cons, List.findIdx_cons, h0, ih]
theorem slot_get {t : List Int} (h : slotF t < t.length) : t[slotF t]? = some (-1) := by
 unfold slotF Fm.firstF at h ⊢
 have := List.findIdx_getElem (p := (· == (-1 : Int))) (xs := t) (w := h)
 rw [List.getElem?_eq_getElem h]
 simpa using this
theorem get_putT {α : Type} (t : List α) (l : Nat) (u : α) (hl : l ≤ t.length) (i : Nat) : (putS t l u)[i]? = if i = l then some u else t[i]? := by
 unfold putS
 by_cases h : l = t.length
 ·rw [if_pos h]
  subst h
  rcases Nat.lt_trichotomy i t.length with h1 | rfl | h1
  ·rw [if_neg (by omega), List.getElem?_append_left h1]
  ·rw [if_pos rfl, List.getElem?_append_right (Nat.le_refl _)]; simp
  ·rw [if_neg (by omega), List.getElem?_append_right (by omega), List.getElem?_eq_none (by simp; omega), List.getElem?_eq_none (by omega)]
 ·rw [if_neg h, List.getElem?_set]
  by_cases e : l = i
  ·subst e; rw [if_pos rfl, if_pos (by omega), if_pos rfl]
  ·rw [if_neg e, if_neg (by omega)]
theorem putT_eq (t : List Int) (l : Nat) (u : Int) : putT t l u = putS t l u := rfl
theorem mem_putT {t : List Int} {u x : Int} (h0 : 0 ≤ x) : x ∈ putT t (slotF t) u ↔ x = u ∨ x ∈ t := by
 rw [putT_eq]
 have hl := slotF_le t
 constructor
 ·intro hx
  obtain ⟨i, hi⟩ := List.getElem?_of_mem hx
  rw [get_putT t _ u hl] at hi
  split at hi
  ·injection hi with hi; exact .inl hi.symm
  ·exact .inr (List.mem_of_getElem? hi)
 ·rintro (rfl | hx)
  ·have := get_putT t _ x hl (slotF t)
   rw [if_pos rfl] at this
   exact List.mem_of_getElem? this
  ·obtain ⟨i, hi⟩ := List.getElem?_of_mem hx
   have := get_putT t _ u hl i
   rw [if_neg] at this
   ·exact List.mem_of_getElem? (this.trans hi)
   ·rintro rfl
    have hlt : slotF t < t.length := (List.getElem?_eq_some_iff.1 hi).1
    rw [slot_get hlt] at hi
    injection hi with hi
    omega
theorem Inj.putT {t : List Int} (h : Inj t) (l : Nat) (u : Int) (hu : u ∉ t) : Inj (putT t l u) := by
 unfold Sh.putT
 split
 ·exact h.app u (.inr hu)
 ·exact h.set_ l u (.inr hu)
theorem putS_map {α β : Type} (f : α → β) (t : List α) (l : Nat) (u : α) : (putS t l u).map f = putS (t.map f) l (f u) := by
 unfold putS
 rw [List.length_map]
 split
 ·simp
 ·rw [List.map_set]
theorem putS_congr {α β : Type} (f g : α → β) (t : List α) (l : Nat) (u : β) (h : ∀ x ∈ t, f x = g x) : putS (t.map f) l u = putS (t.map g) l u := by
 rw [List.map_congr_left h]
theorem abs_slot {c : C} {n : Nat} (g : Good c n) : (c.absF n).slot = slotF c.table := by
 unfold St.slot C.absF slotF Fm.firstF
 refine findIdx_via _ _ _ _ (fun x hx => ?_)
 unfold C.slotOf
 rcases g.ti x hx with rfl | ⟨h0, _⟩
 ·simp
 ·rw [if_neg (by omega)]
  simp; omega
theorem take_free {c : C} {n : Nat} (g : Good c n) (hf : (c.absF n).free ≠ 0) : ∃ k : Nat, k < c.m.length ∧ kindOf c k = 0 ∧ Fm.takeF c.m = (c.m.set k 2, ((k : Nat) : Int), 0) := by
 have hl := (free_count g).1
 obtain ⟨x, hx⟩ : ∃ x, x ∈ Fm.listF c.m 0 := by
  cases h : Fm.listF c.m 0 with
  | nil => rw [h] at hl; simp at hl; omega
  | cons x l => exact ⟨x, List.mem_cons_self ..⟩
 obtain ⟨i, rfl, hi, h0⟩ := mem_listF.1 hx
 have hlt : Fm.firstF c.m 0 < c.m.length := by
  unfold Fm.firstF
  rw [List.findIdx_lt_length]
  refine ⟨c.m[i], List.getElem_mem hi, ?_⟩
  simp [List.getD, List.getElem?_eq_getElem hi] at h0
  simp [h0]
 refine ⟨Fm.firstF c.m 0, hlt, ?_, by unfold Fm.takeF; rw [if_pos hlt]⟩
 rw [← g.md _ hlt]
 have := List.findIdx_getElem (p := (· == (0 : Int))) (xs := c.m) (w := hlt)
 simp [List.getD]
 unfold Fm.firstF at hlt ⊢
 rw [List.getElem?_eq_getElem hlt]
 simpa using this
theorem take_full {c : C} {n : Nat} (g : Good c n) (hf : (c.absF n).free = 0) : Fm.takeF c.m = (c.m, 0, 11) := by
 have hl := (free_count g).1
 rw [hf] at hl
 unfold Fm.takeF
 rw [if_neg]
 intro hlt
 have := List.findIdx_getElem (p := (· == (0 : Int))) (xs := c.m) (w := hlt)
 have hm : ((Fm.firstF c.m 0 : Nat) : Int) ∈ Fm.listF c.m 0 := mem_listF.2 ⟨_, rfl, hlt, by
  simp [List.getD]
  unfold Fm.firstF at hlt ⊢
  rw [List.getElem?_eq_getElem hlt]
  simpa using this⟩
 rw [List.eq_nil_of_length_eq_zero hl] at hm
 simp at hm
theorem kind0 {c : C} {x : Int} (h : kindOf c x = 0) : x ∉ c.parts ∧ x ∉ c.old ∧ x ∉ c.table := by
 unfold kindOf at h
 split at h
 ·omega
 ·split at h
  ·split at h <;> omega
  ·split at h
   ·omega
   ·exact ⟨by assumption, by assumption, by assumption⟩
theorem page_many {c : C} {n : Nat} (g : Good c n) {k : Nat} (h : k < c.m.length) : k < manyF n := by
 have := g.ml
 unfold pagesF at this
 omega
theorem pwrite_okD {d : D} {n : Nat} (h : d.Ok n) (id ep kd : Int) (s : List UInt8) : (pwriteF d n id ep kd s).1.Ok n := by
 unfold pwriteF
 split
 ·exact h
 ·split
  ·exact h
  ·exact w4_okD h _ _ _
/-- a page that is free is written -/
theorem write_free {c : C} {n : Nat} (g : Good c n) {k : Nat} (hk : k < c.m.length) (h0 : kindOf c k = 0) (p : List UInt8) (hp : p.length ≤ 232) :
  (pwriteF c.d n k (c.ep + 1) 2 p).2 = 0 ∧ ∀ d', d' = (pwriteF c.d n k (c.ep + 1) 2 p).1 → d'.down = false ∧ d'.armed = 0 ∧ d'.Ok n ∧ d'.calls ≤ c.d.calls + 4 ∧ preadF d' n k = (⟨k, c.ep + 1, 2, padL p 232⟩, 0) ∧
   (∀ x ∈ c.table, 0 ≤ x → preadF d' n x = preadF c.d n x) ∧ ∀ x ∈ c.old, 0 ≤ x → preadF d' n x = preadF c.d n x := by
 have e := g.ep
 obtain ⟨h1, h2, h3, h4, h5⟩ := write_read g.ok g.up g.arm k (c.ep + 1) 2 p (page_many g hk) (by rw [okP_iff]; omega) hp
 obtain ⟨z1, z2, z3⟩ := kind0 h0
 refine ⟨h1, fun d' hd => ?_⟩
 subst hd
 refine ⟨h2, h3, pwrite_okD g.ok _ _ _ _, (pwrite_bd _ _ _ _ _ _ (by rw [g.arm]; omega)).1, h4, fun x hx hx0 => ?_, fun x hx hx0 => ?_⟩
 ·have := g.ti x hx
  have := h5 x.toNat (page_many g (by omega)) (fun e => z3 (by rw [← e]; rwa [show ((x.toNat : Nat) : Int) = x by omega]))
  rwa [show ((x.toNat : Nat) : Int) = x by omega] at this
 ·have := g.oi x hx
  have := h5 x.toNat (page_many g (by omega)) (fun e => z2 (by rw [← e]; rwa [show ((x.toNat : Nat) : Int) = x by omega]))
  rwa [show ((x.toNat : Nat) : Int) = x by omega] at this
theorem padL_length (p : List UInt8) (h : p.length ≤ 232) : (padL p 232).length = 232 := by unfold padL; simp; omega
theorem getD_set' (l : List Int) (k : Nat) (x : Int) (i : Nat) (hi : i < l.length) : (l.set k x).getD i 0 = if k = i then x else l.getD i 0 := by
 simp only [List.getD, List.getElem?_set]
 by_cases h : k = i
 ·subst h; simp [hi]
 ·simp [h]
/-- the store behind a page that was made in a place of the table -/
theorem new_ok {c : C} {n : Nat} (g : Good c n) {k : Nat} (hk : k < c.m.length) (h0 : kindOf c k = 0) (p : List UInt8) (hp : p.length ≤ 232) {d' : D} (hd : d' = (pwriteF c.d n k (c.ep + 1) 2 p).1) {c' : C} (hc : c' = { c with m := c.m.set k 2, d := d', table := putT c.table (slotF c.table) k }) :
  Good c' n ∧ c'.absF n = { c.absF n with now := putS (c.absF n).now (slotF c.table) (some (true, padL p 232)) } := by
 obtain ⟨_, W⟩ := write_free g hk h0 p hp
 obtain ⟨w1, w2, w3, w4, w5, w6, w7⟩ := W d' hd
 obtain ⟨z1, z2, z3⟩ := kind0 h0
 have hep := g.ep
 have mt : ∀ x, 0 ≤ x → (x ∈ c'.table ↔ x = k ∨ x ∈ c.table) := fun x hx => by subst hc; exact mem_putT hx
 have hsl := slotF_le c.table
 have hkind : ∀ x : Int, 0 ≤ x → kindOf c' x = if x = k then 2 else kindOf c x := by
  intro x hx
  unfold kindOf
  by_cases e : x = k
  ·rw [if_pos e]
   subst e
   rw [if_neg (by subst hc; exact z1), if_neg (by subst hc; exact z2), if_pos ((mt _ hx).2 (.inl rfl))]
  ·rw [if_neg e]
   have : (x ∈ c'.table) ↔ x ∈ c.table := (mt x hx).trans ⟨fun h => h.resolve_left e, .inr⟩
   rw [show c'.parts = c.parts from by rw [hc], show c'.old = c.old from by rw [hc]]
   simp only [this]
 refine ⟨⟨by rw [hc]; exact w1, by rw [hc]; exact w2, by rw [hc]; exact g.br, by rw [hc]; exact w3, ?_, by rw [hc]; exact g.ep, by rw [hc]; exact g.sl, ?_, ?_, ?_, ?_, by rw [hc]; exact g.oj, by rw [hc]; exact g.pj, ?_, by rw [hc]; exact g.pl, ?_, ?_, ?_, ?_⟩, ?_⟩
 ·rw [hc]; show (c.m.set k 2).length = _; rw [List.length_set]; exact g.ml
 ·intro x hx
  have hml : c'.m.length = c.m.length := by rw [hc]; show (c.m.set k 2).length = _; rw [List.length_set]
  rw [hml]
  by_cases h : 0 ≤ x
  ·rcases (mt x h).1 hx with rfl | hx
   ·omega
   ·exact g.ti x hx
  ·obtain ⟨i, hi⟩ := List.getElem?_of_mem hx
   rw [hc] at hi
   have hi : (putT c.table (slotF c.table) k)[i]? = some x := hi
   rw [putT_eq, get_putT _ _ _ hsl] at hi
   split at hi
   ·injection hi with hi; omega
   ·exact g.ti x (List.mem_of_getElem? hi)
 ·intro x hx
  rw [hc] at hx ⊢
  show _ ∨ _ ∧ x < ((c.m.set k 2).length : Int)
  rw [List.length_set]; exact g.oi x hx
 ·intro x hx
  rw [hc] at hx ⊢
  show _ ∧ x < ((c.m.set k 2).length : Int)
  rw [List.length_set]; exact g.pi x hx
 ·rw [hc]; exact g.tj.putT _ _ z3
 ·intro x hx
  have h := g.dt x (by rw [hc] at hx; exact hx)
  have hx0 := (g.pi x (by rw [hc] at hx; exact hx)).1
  refine ⟨fun h1 => ?_, by rw [hc]; exact h.2⟩
  rcases (mt x hx0).1 h1 with rfl | h1
  ·rw [hc] at hx; exact z1 hx
  ·exact h.1 h1
 ·intro i x hi hx ho
  rw [hc] at hi ho ⊢
  have hi : (putT c.table (slotF c.table) k)[i]? = some x := hi
  rw [putT_eq, get_putT _ _ _ hsl] at hi
  split at hi
  ·injection hi with hi
   subst hi
   exact absurd ho z2
  ·exact g.sm i x hi hx ho
 ·intro i hi
  have hi : i < c.m.length := by rw [hc] at hi; simpa using hi
  rw [hkind i (by omega), ← g.md i hi, hc]
  show (c.m.set k 2).getD i 0 = _
  rw [getD_set' _ _ _ _ hi]
  by_cases e : k = i
  ·rw [if_pos e, if_pos (by omega)]
  ·rw [if_neg e, if_neg (by omega)]
 ·intro x hx hx0
  rcases (mt x hx0).1 hx with rfl | hx
  ·rw [hc]; exact ⟨c.ep + 1, _, by omega, Int.le_refl _, padL_length p hp, w5⟩
  ·obtain ⟨q, s, q1, q2, q3, q4⟩ := g.rt x hx hx0
   rw [hc]
   exact ⟨q, s, q1, q2, q3, (w6 x hx hx0).trans q4⟩
 ·intro x hx hx0
  rw [hc] at hx ⊢
  obtain ⟨q, s, q1, q2, q3, q4⟩ := g.ro x hx hx0
  exact ⟨q, s, q1, q2, q3, (w7 x hx hx0).trans q4⟩
 ·rw [hc]
  unfold C.absF
  simp only [List.length_set, St.mk.injEq, true_and, and_true]
  refine ⟨?_, ?_⟩
  ·rw [putT_eq, putS_map]
   have e1 : C.slotOf { c with m := c.m.set k 2, d := d', table := putS c.table (slotF c.table) k } n (k : Int) = some (true, padL p 232) := by
    unfold C.slotOf
    rw [if_neg (by omega)]
    simp only [w5]
    simp [z2]
   rw [e1]
   refine putS_congr _ _ _ _ _ (fun x hx => ?_)
   unfold C.slotOf
   by_cases h : x < 0
   ·rw [if_pos h, if_pos h]
   ·rw [if_neg h, if_neg h]
    simp only [w6 x hx (by omega)]
  ·refine List.map_congr_left (fun x hx => ?_)
   by_cases h : x < 0
   ·rw [if_pos h, if_pos h]
   ·rw [if_neg h, if_neg h]
    simp only [w7 x hx (by omega)]
theorem new_good {c : C} {n : Nat} (g : Good c n) (p : List UInt8) :
  Good (c.newF n p).1 n ∧ (c.newF n p).1.absF n = ((c.absF n).newF p).1 ∧ (c.newF n p).2 = ((c.absF n).newF p).2 ∧ (c.newF n p).1.d.calls ≤ c.d.calls + 4 ∧ (c.newF n p).1.old = c.old ∧ (c.newF n p).1.parts = c.parts := by
 unfold C.newF St.newF
 rw [if_neg (by rw [g.br]; simp), abs_slot g]
 by_cases h1 : 232 < p.length
 ·rw [if_pos h1, if_pos h1]
  exact ⟨g, rfl, rfl, by show c.d.calls ≤ _; omega, rfl, rfl⟩
 rw [if_neg h1, if_neg h1]
 by_cases h2 : 512 ≤ slotF c.table
 ·rw [if_pos h2, if_pos (.inl h2)]
  exact ⟨g, rfl, rfl, by show c.d.calls ≤ _; omega, rfl, rfl⟩
 rw [if_neg h2]
 by_cases h3 : (c.absF n).free = 0
 ·have ht := take_full g h3
  have hf : c.freshF n p = (c, 0, 11) := by
   unfold C.freshF
   rw [ht, if_pos (by simp)]
  rw [hf, if_pos (by simp), if_pos (.inr h3)]
  exact ⟨g, rfl, rfl, by show c.d.calls ≤ _; omega, rfl, rfl⟩
 ·obtain ⟨k, hk, h0, ht⟩ := take_free g h3
  obtain ⟨W0, W⟩ := write_free g hk h0 p (by omega)
  have hf : c.freshF n p = ({ c with m := c.m.set k 2, d := (pwriteF c.d n k (c.ep + 1) 2 p).1 }, (k : Int), 0) := by
   unfold C.freshF
   rw [ht, if_neg (by simp), if_neg (by rw [W0]; simp)]
  rw [hf, if_neg (by simp), if_neg (by omega)]
  obtain ⟨G, e⟩ := new_ok g hk h0 p (by omega) rfl (c' := { c with m := c.m.set k 2, d := (pwriteF c.d n k (c.ep + 1) 2 p).1, table := putT c.table (slotF c.table) k }) rfl
  exact ⟨G, e, rfl, (W _ rfl).2.2.2.1, rfl, rfl⟩
end Go.Proofs.YtbelcgjbhpjnpaaGreat.Sh

/- the healthy store: a page is dropped, read; the store at its beginning. -/
namespace Go.Proofs.YtbelcgjbhpjnpaaGreat.Sh
open Go.RowKit Pk Dk Pg
theorem abs_at {c : C} {n : Nat} (l : Int) : (c.absF n).at l = if 0 ≤ l then ((c.table[l.toNat]?).map (c.slotOf n)).getD none else none := by
 unfold St.at C.absF
 simp only [List.getElem?_map]
theorem abs_has {c : C} {n : Nat} (g : Good c n) (l : Int) : (c.hasF l = true ↔ ((c.absF n).at l).isSome = true) ∧ (c.hasF l = true → ∃ k x : Nat, l = k ∧ c.table[k]? = some (x : Int) ∧ (x : Int) < c.m.length ∧ (c.absF n).at l = c.slotOf n x) := by
 rw [abs_at]
 have key : c.hasF l = true ↔ 0 ≤ l ∧ ∃ x, c.table[l.toNat]? = some x ∧ 0 ≤ x := by
  unfold C.hasF
  simp only [Bool.and_eq_true, decide_eq_true_eq]
  constructor
  ·rintro ⟨⟨h1, h2⟩, h3⟩
   refine ⟨h1, c.table.getD l.toNat 0, ?_, h3⟩
   rw [List.getElem?_eq_getElem (by omega)]
   simp [List.getD, List.getElem?_eq_getElem (show l.toNat < c.table.length by omega)]
  ·rintro ⟨h1, x, h2, h3⟩
   have hl : l.toNat < c.table.length := (List.getElem?_eq_some_iff.1 h2).1
   refine ⟨⟨h1, by omega⟩, ?_⟩
   simp [List.getD, h2]; exact h3
 rw [key]
 constructor
 ·constructor
  ·rintro ⟨h1, x, h2, h3⟩
   rw [if_pos h1, h2]
   simp [C.slotOf]; omega
  ·intro h
   by_cases h1 : 0 ≤ l
   ·rw [if_pos h1] at h
    refine ⟨h1, ?_⟩
    cases h2 : c.table[l.toNat]? with
    | none => rw [h2] at h; simp at h
    | some x =>
     refine ⟨x, rfl, ?_⟩
     rw [h2] at h
     simp [C.slotOf] at h
     omega
   ·rw [if_neg h1] at h; simp at h
 ·rintro ⟨h1, x, h2, h3⟩
  have := g.ti x (List.mem_of_getElem? h2)
  obtain ⟨xn, rfl⟩ := Int.eq_ofNat_of_zero_le h3
  refine ⟨l.toNat, xn, by omega, h2, by omega, ?_⟩
  rw [if_pos h1, h2]; rfl
theorem atF_good {c : C} {n : Nat} (g : Good c n) (l : Int) : c.atF l = if c.hasF l = true then 0 else 3 := by
 unfold C.atF
 rw [if_neg (by rw [g.br]; simp)]
theorem read_good {c : C} {n : Nat} (g : Good c n) (l : Int) : c.readF n l = (c.absF n).readF l := by
 obtain ⟨h1, h2⟩ := abs_has g l
 unfold C.readF St.readF
 rw [atF_good g]
 by_cases hh : c.hasF l = true
 ·obtain ⟨k, x, rfl, hk, hx, e⟩ := h2 hh
  rw [if_pos hh, if_neg (by simp), e]
  obtain ⟨q, s, q1, q2, q3, q4⟩ := g.rt x (List.mem_of_getElem? hk) (by omega)
  have e2 : c.table.getD ((k : Nat) : Int).toNat 0 = (x : Int) := by rw [show ((k : Nat) : Int).toNat = k by omega]; simp [List.getD, hk]
  rw [e2, q4, if_neg (by simp)]
  unfold C.slotOf
  rw [if_neg (by omega), q4]
 ·rw [if_neg hh, if_pos (by simp)]
  have : ((c.absF n).at l) = none := by
   cases h : (c.absF n).at l with
   | none => rfl
   | some v => exact absurd (h1.2 (by rw [h]; rfl)) hh
  rw [this]
theorem read_len {c : C} {n : Nat} (g : Good c n) {l : Int} (h : ((c.absF n).readF l).2 = 0) : ((c.absF n).readF l).1.length = 232 := by
 obtain ⟨h1, h2⟩ := abs_has g l
 by_cases hh : c.hasF l = true
 ·obtain ⟨k, x, rfl, hk, hx, e⟩ := h2 hh
  obtain ⟨q, s, q1, q2, q3, q4⟩ := g.rt x (List.mem_of_getElem? hk) (by omega)
  unfold St.readF
  rw [e]
  unfold C.slotOf
  rw [if_neg (by omega), q4]
  exact q3
 ·have : ((c.absF n).at l) = none := by
   cases h : (c.absF n).at l with
   | none => rfl
   | some v => exact absurd (h1.2 (by rw [h]; rfl)) hh
  unfold St.readF at h
  rw [this] at h
  simp at h
theorem drop_good {c : C} {n : Nat} (g : Good c n) (l : Int) :
  Good (c.dropF l).1 n ∧ (c.dropF l).1.absF n = ((c.absF n).dropF l).1 ∧ (c.dropF l).2 = ((c.absF n).dropF l).2 ∧ (c.dropF l).1.d = c.d ∧ (c.dropF l).1.old = c.old ∧ (c.dropF l).1.parts = c.parts := by
 obtain ⟨h1, h2⟩ := abs_has g l
 unfold C.dropF St.dropF
 rw [atF_good g]
 by_cases hh : c.hasF l = true
 ·obtain ⟨k, x, rfl, hk, hx, e⟩ := h2 hh
  have e2 : c.table.getD ((k : Nat) : Int).toNat 0 = (x : Int) := by rw [show ((k : Nat) : Int).toNat = k by omega]; simp [List.getD, hk]
  have hxt := List.mem_of_getElem? hk
  have hxp : (x : Int) ∉ c.parts := fun h => (g.dt _ h).1 hxt
  rw [if_pos hh, if_neg (by simp), if_pos (h1.1 hh), e2, show ((k : Nat) : Int).toNat = k by omega]
  have hxl : x < c.m.length := by omega
  have hin : Fm.inF c.m (x : Int) = true := by unfold Fm.inF; simp; omega
  have hkx := g.md x hxl
  obtain ⟨u, hu, hu2⟩ : ∃ u, (Fm.leaveF c.m (x : Int)).1 = c.m.set x u ∧ u = if (x : Int) ∈ c.old then 3 else 0 := by
   unfold Fm.leaveF
   rw [if_pos hin, show ((x : Nat) : Int).toNat = x by omega, hkx]
   unfold kindOf
   rw [if_neg hxp]
   by_cases ho : (x : Int) ∈ c.old
   ·rw [if_pos ho, if_pos hxt, if_neg (by omega), if_pos rfl]
    exact ⟨3, rfl, by rw [if_pos ho]⟩
   ·rw [if_neg ho, if_pos hxt, if_pos rfl]
    exact ⟨0, rfl, by rw [if_neg ho]⟩
  obtain ⟨c', hc⟩ : ∃ c' : C, c' = { c with m := (Fm.leaveF c.m (x : Int)).1, table := c.table.set k (-1) } := ⟨_, rfl⟩
  have hml : c'.m.length = c.m.length := by rw [hc]; show (Fm.leaveF c.m (x : Int)).1.length = _; rw [hu, List.length_set]
  have mt : ∀ z, 0 ≤ z → (z ∈ c'.table ↔ z ∈ c.table ∧ z ≠ x) := fun z hz => by rw [hc]; exact mem_set_iff g.tj hk (-1) hz (by omega) (by omega)
  have hsub : ∀ z ∈ c'.table, 0 ≤ z → z ∈ c.table := fun z hz h0 => ((mt z h0).1 hz).1
  have hkind : ∀ z : Int, 0 ≤ z → kindOf c' z = if z = x then u else kindOf c z := by
   intro z hz
   unfold kindOf
   have e3 : c'.parts = c.parts := by rw [hc]
   have e4 : c'.old = c.old := by rw [hc]
   rw [e3, e4]
   by_cases e : z = x
   ·rw [if_pos e]
    subst e
    rw [if_neg hxp, hu2]
    have : (x : Int) ∉ c'.table := fun h => ((mt _ hz).1 h).2 rfl
    simp only [this, if_false]
   ·rw [if_neg e]
    have : (z ∈ c'.table) ↔ z ∈ c.table := (mt z hz).trans ⟨fun h => h.1, fun h => ⟨h, e⟩⟩
    simp only [this]
  show Good { c with m := (Fm.leaveF c.m (x : Int)).1, table := c.table.set k (-1) } n ∧ _
  refine ⟨?_, ?_, rfl, rfl, rfl, rfl⟩
  ·rw [← hc]
   refine ⟨by rw [hc]; exact g.up, by rw [hc]; exact g.arm, by rw [hc]; exact g.br, by rw [hc]; exact g.ok, hml.trans g.ml, by rw [hc]; exact g.ep, by rw [hc]; exact g.sl, ?_, by rw [hml, hc]; exact g.oi, by rw [hml, hc]; exact g.pi, by rw [hc]; exact g.tj.set_ k (-1) (.inl (by omega)), by rw [hc]; exact g.oj, by rw [hc]; exact g.pj, ?_, by rw [hc]; exact g.pl, ?_, ?_, ?_, by rw [hc]; exact g.ro⟩
   ·intro z hz
    rw [hml]
    by_cases h0 : 0 ≤ z
    ·exact g.ti z (hsub z hz h0)
    ·rw [hc] at hz
     rcases List.mem_or_eq_of_mem_set hz with hz | rfl
     ·exact g.ti z hz
     ·exact .inl rfl
   ·intro z hz
    have hz' : z ∈ c.parts := by rw [hc] at hz; exact hz
    exact ⟨fun h => (g.dt z hz').1 (hsub z h (g.pi z hz').1), by rw [hc]; exact (g.dt z hz').2⟩
   ·intro i z hi hz ho
    rw [hc] at hi ho ⊢
    have hi : (c.table.set k (-1))[i]? = some z := hi
    rw [List.getElem?_set] at hi
    split at hi
    ·split at hi
     ·injection hi with hi; omega
     ·cases hi
    ·exact g.sm i z hi hz ho
   ·intro i hi
    rw [hml] at hi
    rw [hkind i (by omega), ← g.md i hi]
    have : c'.m = c.m.set x u := by rw [hc]; exact hu
    rw [this, getD_set' _ _ _ _ hi]
    by_cases e : x = i
    ·rw [if_pos e, if_pos (by omega)]
    ·rw [if_neg e, if_neg (by omega)]
   ·intro z hz h0
    rw [hc]
    rw [hc] at hz
    exact g.rt z (hsub z (by rw [hc]; exact hz) h0) h0
  ·unfold C.absF
   simp only [hu, List.length_set, St.mk.injEq, true_and, and_true]
   rw [List.map_set]
   rfl
 ·have : ((c.absF n).at l) = none := by
   cases h : (c.absF n).at l with
   | none => rfl
   | some v => exact absurd (h1.2 (by rw [h]; rfl)) hh
  rw [if_neg hh, if_pos (by simp), this, if_neg (by simp)]
  exact ⟨g, rfl, rfl, rfl, rfl, rfl⟩
/-- the pages that are there -/
def pgsS (t : List (Option (Bool × List UInt8))) : Nat → List Int
 | 0 => []
 | k + 1 => pgsS t k ++ if ((t[k]?).getD none).isSome then [(k : Int)] else []
theorem pgs_abs {c : C} {n : Nat} : ∀ k, k ≤ c.table.length → pgs c.table k = pgsS (c.absF n).now k
 | 0, _ => rfl
 | k + 1, h => by
  unfold pgs pgsS
  rw [pgs_abs k (by omega)]
  congr 1
  unfold C.absF
  simp only [List.getElem?_map, List.getElem?_eq_getElem (show k < c.table.length by omega), List.getD, Option.map_some, Option.getD_some, C.slotOf]
  by_cases h0 : c.table[k] < 0
  ·rw [if_pos h0, if_neg (by omega)]; rfl
  ·rw [if_neg h0, if_pos (by omega)]; rfl
def St.pages (a : St) : List Int := pgsS a.now a.now.length
theorem pgsS_length (t : List (Option (Bool × List UInt8))) : ∀ k, k ≤ t.length → (pgsS t k).length = (t.take k).countP Option.isSome
 | 0, _ => rfl
 | k + 1, h => by
  unfold pgsS
  rw [List.length_append, pgsS_length t k (by omega), List.take_succ_eq_append_getElem (by omega), List.countP_append, List.getElem?_eq_getElem (by omega)]
  simp only [Option.getD_some]
  cases t[k] <;> simp
theorem at_some {a : St} {l : Int} (h : (a.at l).isSome = true) : 0 ≤ l ∧ l.toNat < a.now.length := by
 unfold St.at at h
 by_cases h0 : 0 ≤ l
 ·rw [if_pos h0] at h
  refine ⟨h0, ?_⟩
  rcases Nat.lt_or_ge l.toNat a.now.length with h1 | h1
  ·exact h1
  ·rw [List.getElem?_eq_none h1] at h; simp at h
 ·rw [if_neg h0] at h; simp at h
theorem slot_le (a : St) : a.slot ≤ a.now.length := List.findIdx_le_length
theorem slot_none (a : St) : a.at (a.slot : Nat) = none := by
 unfold St.at
 rw [if_pos (by omega), show (((a.slot : Nat) : Int)).toNat = a.slot by omega]
 rcases Nat.lt_or_ge a.slot a.now.length with h | h
 ·have := List.findIdx_getElem (p := Option.isNone) (xs := a.now) (w := h)
  unfold St.slot at h ⊢
  rw [List.getElem?_eq_getElem h]
  simpa using this
 ·rw [List.getElem?_eq_none h]; rfl
end Go.Proofs.YtbelcgjbhpjnpaaGreat.Sh

/- a store that Format made, plainly. -/
namespace Go.Proofs.YtbelcgjbhpjnpaaGreat.Sh
open Go.RowKit Pk Dk Pg
theorem wsync_bd0 (d : D) (h : d.armed ≤ 9223372036854775807) : d.syncF.1.calls ≤ d.calls + 1 ∧ d.syncF.1.armed ≤ 9223372036854775807 := by
 have := wcount_bd d h
 unfold D.syncF
 split
 ·exact ⟨by show d.calls ≤ _; omega, h⟩
 ·split
  ·exact ⟨by show d.countF.1.calls ≤ _; omega, this.2⟩
  ·exact ⟨by omega, this.2⟩
theorem good_start (n : Nat) (h1 : 1 ≤ pagesF n) (hn : n ≤ 4096) (hok : (formC (D.zero n) n).d.Ok n) : Good (formC (D.zero n) n) n ∧ (formC (D.zero n) n).absF n = { many := pagesF n, now := [], old := [], ep := 1 } ∧ (formC (D.zero n) n).d.calls ≤ 10 := by
 have hk : 2 ≤ n := by unfold pagesF manyF at h1; omega
 have z : (D.zero n).down = false ∧ (D.zero n).armed = 0 ∧ (D.zero n).calls = 0 := ⟨rfl, rfl, rfl⟩
 obtain ⟨w1, w2, w3⟩ := write_fine (d := D.zero n) (n := n) (k := 0) z.1 z.2.1 (by omega) root1
 obtain ⟨v1, v2, v3⟩ := write_fine (d := ((D.zero n).writeF n (0 : Nat) root1).1) (n := n) (k := 1) w2 w3 (by omega) []
 obtain ⟨s1, s2, s3, _⟩ := sync_fine v2 v3
 have c1 := wwrite_bd (D.zero n) n 0 root1 (by show (0 : Int) ≤ _; omega)
 have c2 := wwrite_bd ((D.zero n).writeF n 0 root1).1 n 1 [] c1.2
 have hc : (formC (D.zero n) n).d.calls ≤ 10 := by
  show (((D.zero n).writeF n 0 root1).1.writeF n 1 []).1.syncF.1.calls ≤ 10
  have c3 := (wsync_bd0 ((((D.zero n).writeF n 0 root1).1.writeF n 1 []).1) c2.2).1
  have := c1.1
  have := c2.1
  omega
 refine ⟨⟨s2, s3, rfl, hok, by simp [formC], by simp [formC], .inl rfl, by simp [formC], by simp [formC], by simp [formC], by simp [formC, Inj], by simp [formC, Inj], by simp [formC, Inj], by simp [formC], by simp [formC, needT], by simp [formC], ?_, by simp [formC], by simp [formC]⟩, ?_, hc⟩
 ·intro i hi
  simp [formC] at hi
  unfold kindOf formC
  simp [List.getD, hi]
 ·unfold C.absF formC
  simp
def St.start (pages : Nat) : St := { many := pages, now := [], old := [], ep := 1 }
end Go.Proofs.YtbelcgjbhpjnpaaGreat.Sh
