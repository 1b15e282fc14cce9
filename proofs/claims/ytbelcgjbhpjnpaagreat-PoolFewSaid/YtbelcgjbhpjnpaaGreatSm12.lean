/- the document's store, with empty places behind. -/
import Derived.Test.YtbelcgjbhpjnpaaGreatMb
import Derived.Test.YtbelcgjbhpjnpaaGreatTb
set_option linter.all false
set_option linter.unusedVariables false
set_option linter.unusedSimpArgs false
namespace Go.Proofs.YtbelcgjbhpjnpaaGreat.Sh
open Go.RowKit Pk Dk Pg
theorem pad_zero (b : St) : b.pad 0 = b := by unfold St.pad; simp
theorem pad_pad (b : St) (j k : Nat) : (b.pad j).pad k = b.pad (j + k) := by unfold St.pad; simp [List.append_assoc, List.replicate_append_replicate]
theorem pad_get {α : Type} (l : List (Option α)) (k i : Nat) : ((l ++ List.replicate k none)[i]?).getD none = (l[i]?).getD none := by
 by_cases h : i < l.length
 ·rw [List.getElem?_append_left h]
 ·rw [List.getElem?_append_right (by omega), List.getElem?_eq_none (l := l) (by omega), List.getElem?_replicate]
  split <;> rfl
theorem pad_at (b : St) (k : Nat) (l : Int) : (b.pad k).at l = b.at l := by
 unfold St.at
 show (if 0 ≤ l then ((b.now ++ List.replicate k none)[l.toNat]?).getD none else none) = _
 rw [pad_get]
theorem pad_fresh (b : St) (k : Nat) : (b.pad k).fresh = b.fresh := by
 unfold St.fresh
 show (b.now ++ List.replicate k none).countP isFresh = _
 rw [List.countP_append, List.countP_replicate]
 simp [isFresh]
theorem pad_kept (b : St) (k : Nat) : (b.pad k).kept = b.kept := rfl
theorem pad_free (b : St) (k : Nat) : (b.pad k).free = b.free := by
 unfold St.free
 rw [pad_fresh, pad_kept]
 rfl
theorem pad_slot (b : St) (k : Nat) : (b.pad k).slot = b.slot := by
 unfold St.slot
 show (b.now ++ List.replicate k none).findIdx Option.isNone = _
 rw [List.findIdx_append]
 split
 ·rfl
 ·rename_i h
  have h1 : b.now.findIdx Option.isNone = b.now.length := by
   have := List.findIdx_le_length (xs := b.now) (p := Option.isNone)
   omega
  cases k with
  | zero => simp [h1]
  | succ k => simp [List.replicate_succ, List.findIdx_cons, h1]
theorem pad_set {α : Type} (l : List (Option α)) (k i : Nat) (u : Option α) (h : i < l.length) : (l ++ List.replicate k none).set i u = l.set i u ++ List.replicate k none := List.set_append_left _ _ h
theorem pad_new (b : St) (k : Nat) (p : List UInt8) : ∃ k', (b.pad k).newF p = ((b.newF p).1.pad k', (b.newF p).2) := by
 unfold St.newF
 rw [pad_slot, pad_free]
 by_cases h1 : 232 < p.length
 ·rw [if_pos h1, if_pos h1]; exact ⟨k, rfl⟩
 rw [if_neg h1, if_neg h1]
 by_cases h2 : 512 ≤ b.slot ∨ b.free = 0
 ·rw [if_pos h2, if_pos h2]; exact ⟨k, rfl⟩
 rw [if_neg h2, if_neg h2]
 have hs : b.slot ≤ b.now.length := List.findIdx_le_length
 by_cases h3 : b.slot = b.now.length
 ·cases k with
  | zero => exact ⟨0, by rw [pad_zero, pad_zero]⟩
  | succ k =>
   refine ⟨k, ?_⟩
   unfold St.pad
   simp only [Prod.mk.injEq, St.mk.injEq, true_and, and_true]
   unfold putS
   rw [if_neg (by simp; omega), if_pos h3, h3, List.set_append_right _ _ (Nat.le_refl _), Nat.sub_self, List.replicate_succ]
   simp
 ·refine ⟨k, ?_⟩
  unfold St.pad
  simp only [Prod.mk.injEq, St.mk.injEq, true_and, and_true]
  unfold putS
  rw [if_neg (by simp; omega), if_neg h3, pad_set _ _ _ _ (by omega)]
theorem at_some_lt {b : St} {l : Int} (h : (b.at l).isSome = true) : 0 ≤ l ∧ l.toNat < b.now.length := by
 unfold St.at at h
 by_cases h0 : 0 ≤ l
 ·rw [if_pos h0] at h
  refine ⟨h0, Nat.lt_of_not_le (fun hle => ?_)⟩
  rw [List.getElem?_eq_none hle] at h
  simp at h
 ·rw [if_neg h0] at h; simp at h
theorem pad_write (b : St) (k : Nat) (l : Int) (p : List UInt8) : (b.pad k).writeF l p = ((b.writeF l p).1.pad k, (b.writeF l p).2) := by
 unfold St.writeF
 rw [pad_at, pad_free]
 by_cases h1 : 232 < p.length
 ·rw [if_pos h1, if_pos h1]
 rw [if_neg h1, if_neg h1]
 by_cases h2 : ¬ (b.at l).isSome = true
 ·rw [if_pos h2, if_pos h2]
 rw [if_neg h2, if_neg h2]
 by_cases h3 : isFresh (b.at l) = false ∧ b.free = 0
 ·rw [if_pos h3, if_pos h3]
 rw [if_neg h3, if_neg h3]
 unfold St.pad
 simp only [Prod.mk.injEq, St.mk.injEq, true_and, and_true]
 exact pad_set _ _ _ _ (at_some_lt (Decidable.not_not.1 h2)).2
theorem pad_drop (b : St) (k : Nat) (l : Int) : (b.pad k).dropF l = ((b.dropF l).1.pad k, (b.dropF l).2) := by
 unfold St.dropF
 rw [pad_at]
 by_cases h2 : (b.at l).isSome = true
 ·rw [if_pos h2, if_pos h2]
  unfold St.pad
  simp only [Prod.mk.injEq, St.mk.injEq, true_and, and_true]
  exact pad_set _ _ _ _ (at_some_lt h2).2
 ·rw [if_neg h2, if_neg h2]
theorem trimN_succ (l : List Sl14) (k : Nat) : trimN l (k + 1) = if ((l[k]?).getD none).isSome then k + 1 else trimN l k := rfl
theorem pgsS_succ (l : List Sl14) (k : Nat) : pgsS l (k + 1) = pgsS l k ++ if ((l[k]?).getD none).isSome then [(k : Int)] else [] := rfl
theorem trimN_app {α : Type} (f : List (Option (Bool × List UInt8)) → α) (l : List Sl14) (k : Nat) : trimN (l ++ List.replicate k none) (l.length + k) = trimN l l.length := by
 have h1 : ∀ j, j ≤ l.length → trimN (l ++ List.replicate k none) j = trimN l j := by
  intro j
  induction j with
  | zero => intro _; rfl
  | succ j ih =>
   intro hj
   unfold trimN
   rw [pad_get, ih (by omega)]
 have h2 : ∀ j, trimN (l ++ List.replicate k none) (l.length + j) = trimN (l ++ List.replicate k none) l.length := by
  intro j
  induction j with
  | zero => rfl
  | succ j ih =>
   rw [show l.length + (j + 1) = (l.length + j) + 1 by omega, trimN_succ, pad_get, List.getElem?_eq_none (by omega), if_neg (by simp)]
   exact ih
 rw [h2, h1 _ (Nat.le_refl _)]
theorem pad_next (b : St) (k : Nat) : (b.pad k).nextF = b.nextF := by
 unfold St.nextF
 show ((b.now ++ List.replicate k none).take (trimN (b.now ++ List.replicate k none) (b.now ++ List.replicate k none).length)).map _ = _
 have hl : (b.now ++ List.replicate k (none : Sl14)).length = b.now.length + k := by simp
 have h2 := trimN_app (fun x => x) b.now k
 rw [hl, h2]
 have := trimN_le b.now b.now.length
 rw [List.take_append_of_le_length this]
theorem pad_leaving (b : St) (k : Nat) : (b.pad k).leaving = b.leaving := by
 unfold St.leaving
 show leavTo (b.now ++ List.replicate k none) (oldS b.old) b.old.length = _
 have : ∀ j, leavTo (b.now ++ List.replicate k none) (oldS b.old) j = leavTo b.now (oldS b.old) j := by
  intro j
  induction j with
  | zero => rfl
  | succ j ih =>
   unfold leavTo leavB
   rw [ih, pad_get]
 exact this _
theorem pad_pgs (l : List Sl14) (k : Nat) : pgsS (l ++ List.replicate k none) (l.length + k) = pgsS l l.length := by
 have h1 : ∀ j, j ≤ l.length → pgsS (l ++ List.replicate k none) j = pgsS l j := by
  intro j
  induction j with
  | zero => intro _; rfl
  | succ j ih =>
   intro hj
   unfold pgsS
   rw [pad_get, ih (by omega)]
 have h2 : ∀ j, pgsS (l ++ List.replicate k none) (l.length + j) = pgsS (l ++ List.replicate k none) l.length := by
  intro j
  induction j with
  | zero => rfl
  | succ j ih =>
   rw [show l.length + (j + 1) = (l.length + j) + 1 by omega, pgsS_succ, pad_get, List.getElem?_eq_none (by omega), ih]
   simp
 rw [h2, h1 _ (Nat.le_refl _)]
theorem leav_abs {c : C} {n : Nat} (g : Good c n) : ∀ k, k ≤ c.old.length → leavTo (c.absF n).now (oldS (c.absF n).old) k = (c.old.take k).countP (fun x => decide (0 ≤ x) && decide (x ∉ c.table))
 | 0, _ => rfl
 | k + 1, h => by
  have ih := leav_abs g k (by omega)
  obtain ⟨x, hx⟩ : ∃ x, c.old[k]? = some x := ⟨_, List.getElem?_eq_getElem (by omega)⟩
  have hxk : c.old[k] = x := (List.getElem?_eq_some_iff.1 hx).2
  unfold leavTo
  rw [ih, List.take_succ_eq_append_getElem (by omega), List.countP_append, hxk, List.countP_singleton]
  congr 1
  have e1 : ((oldS (c.absF n).old)[k]?).getD none = if x < 0 then none else some (false, (preadF c.d n x).1.s) := by
   unfold oldS C.absF
   simp only [List.getElem?_map, hx, Option.map_some, Option.getD_some]
   split <;> rfl
  have e2 : ((c.absF n).now[k]?).getD none = ((c.table[k]?).map (c.slotOf n)).getD none := by
   unfold C.absF
   rw [List.getElem?_map]
  have key : leavB (c.absF n).now (oldS (c.absF n).old) k = (decide (0 ≤ x) && decide (x ∉ c.table)) := by
   unfold leavB
   rw [e1, e2]
   by_cases h0 : x < 0
   ·rw [if_pos h0]; simp; omega
   ·rw [if_neg h0]
    simp only [Option.isSome_some, Bool.true_and]
    rw [show decide (0 ≤ x) = true by simpa using (show 0 ≤ x by omega), Bool.true_and]
    by_cases ht : x ∈ c.table
    ·obtain ⟨j, hj⟩ := List.getElem?_of_mem ht
     have := g.sm j x hj (by omega) (List.mem_of_getElem? hx)
     have hjk := g.oj j k x this hx (by omega)
     subst hjk
     rw [hj]
     simp [C.slotOf, h0, isFresh, List.mem_of_getElem? hx, ht]
    ·simp only [ht, not_false_eq_true, decide_true]
     cases hk : c.table[k]? with
     | none => simp
     | some y =>
      by_cases hy : y < 0
      ·simp [C.slotOf, hy]
      ·by_cases hyo : y ∈ c.old
       ·have := g.sm k y hk (by omega) hyo
        rw [hx] at this
        injection this with this
        subst this
        exact absurd (List.mem_of_getElem? hk) ht
       ·simp [C.slotOf, hy, isFresh, hyo]
  rw [key]
/-- what the program counts is what the document counts -/
theorem counts {c : C} {n : Nat} (g : Good c n) : (Fm.listF c.m 0).length = (c.absF n).free ∧ (Fm.listF c.m 2).length = (c.absF n).fresh ∧ (Fm.listF c.m 1).length + (Fm.listF c.m 3).length = (c.absF n).kept ∧ (Fm.listF c.m 3).length = (c.absF n).leaving := by
 have hp : c.parts.Nodup := inj_nodup g.pj (fun x hx => (g.pi x hx).1)
 refine ⟨(free_count g).1, ?_, ?_, ?_⟩
 ·have hFl : ((ids c.table).filter (fun x => decide (x ∉ c.old))).length = (c.absF n).fresh := by
   unfold St.fresh C.absF ids
   rw [List.filter_filter, ← List.countP_eq_length_filter, List.countP_map]
   apply List.countP_congr
   intro x hx
   simp only [Function.comp, C.slotOf]
   by_cases h : x < 0
   ·rw [if_pos h]; simp [isFresh]; omega
   ·rw [if_neg h]; simp [isFresh]; omega
  rw [← hFl]
  refine nodup_eq (nodup_listF _ _) ((ids_nodup g.tj).sublist List.filter_sublist) (fun x => ?_)
  rw [mem_listF, List.mem_filter, mem_ids]
  constructor
  ·rintro ⟨i, rfl, hi, h0⟩
   rw [g.md i hi] at h0
   unfold kindOf at h0
   split at h0
   ·omega
   ·split at h0
    ·split at h0 <;> omega
    ·split at h0
     ·exact ⟨⟨by assumption, by omega⟩, by simpa⟩
     ·omega
  ·rintro ⟨⟨ht, h0⟩, ho⟩
   have ho : x ∉ c.old := by simpa using ho
   have := g.ti x ht
   refine ⟨x.toNat, by omega, by omega, ?_⟩
   rw [g.md _ (by omega), show ((x.toNat : Nat) : Int) = x by omega]
   unfold kindOf
   rw [if_neg (fun h => (g.dt x h).1 ht), if_neg ho, if_pos ht]
 ·have hKl : (c.parts ++ ids c.old).length = (c.absF n).kept := by
   unfold St.kept C.absF ids
   rw [List.length_append, g.pl, ← List.countP_eq_length_filter, List.countP_map, List.length_map]
   have : c.old.countP (fun x => decide (0 ≤ x)) = c.old.countP (Option.isSome ∘ fun x => if x < 0 then none else some (preadF c.d n x).1.s) := by
    apply List.countP_congr
    intro x hx
    simp only [Function.comp]
    by_cases h : x < 0
    ·rw [if_pos h]; simp; omega
    ·rw [if_neg h]; simp; omega
   omega
  rw [← hKl, ← List.length_append]
  refine nodup_eq ?_ ?_ (fun x => ?_)
  ·rw [List.nodup_append]
   refine ⟨nodup_listF _ _, nodup_listF _ _, fun a ha b hb e => ?_⟩
   subst e
   obtain ⟨i, rfl, hi, h0⟩ := mem_listF.1 ha
   obtain ⟨j, e, hj, h1⟩ := mem_listF.1 hb
   obtain rfl : i = j := by omega
   omega
  ·rw [List.nodup_append]
   refine ⟨hp, ids_nodup g.oj, fun a ha b hb e => ?_⟩
   subst e
   exact (g.dt a ha).2 (mem_ids.1 hb).1
  ·rw [List.mem_append, List.mem_append, mem_listF, mem_listF, mem_ids]
   constructor
   ·rintro (⟨i, rfl, hi, h0⟩ | ⟨i, rfl, hi, h0⟩)
    ·rw [g.md i hi] at h0
     unfold kindOf at h0
     by_cases h1 : (i : Int) ∈ c.parts
     ·exact .inl h1
     ·rw [if_neg h1] at h0
      by_cases h2 : (i : Int) ∈ c.old
      ·exact .inr ⟨h2, by omega⟩
      ·rw [if_neg h2] at h0
       split at h0 <;> omega
    ·rw [g.md i hi] at h0
     unfold kindOf at h0
     by_cases h1 : (i : Int) ∈ c.parts
     ·exact .inl h1
     ·rw [if_neg h1] at h0
      by_cases h2 : (i : Int) ∈ c.old
      ·exact .inr ⟨h2, by omega⟩
      ·rw [if_neg h2] at h0
       split at h0 <;> omega
   ·rintro (h1 | ⟨h1, h0⟩)
    ·have := g.pi x h1
     refine .inl ⟨x.toNat, by omega, by omega, ?_⟩
     rw [g.md _ (by omega), show ((x.toNat : Nat) : Int) = x by omega]
     unfold kindOf
     rw [if_pos h1]
    ·have := g.oi x h1
     by_cases ht : x ∈ c.table
     ·refine .inl ⟨x.toNat, by omega, by omega, ?_⟩
      rw [g.md _ (by omega), show ((x.toNat : Nat) : Int) = x by omega]
      unfold kindOf
      rw [if_neg (fun h => (g.dt x h).2 h1), if_pos h1, if_pos ht]
     ·refine .inr ⟨x.toNat, by omega, by omega, ?_⟩
      rw [g.md _ (by omega), show ((x.toNat : Nat) : Int) = x by omega]
      unfold kindOf
      rw [if_neg (fun h => (g.dt x h).2 h1), if_pos h1, if_neg ht]
 ·have hl : (c.absF n).leaving = ((ids c.old).filter (fun x => decide (x ∉ c.table))).length := by
   have hol : (c.absF n).old.length = c.old.length := by unfold C.absF; simp
   unfold St.leaving
   rw [hol, leav_abs g _ (Nat.le_refl _), List.take_length]
   unfold ids
   rw [List.filter_filter, ← List.countP_eq_length_filter]
   apply List.countP_congr
   intro x _
   simp [and_comm]
  rw [hl]
  refine nodup_eq (nodup_listF _ _) ((ids_nodup g.oj).sublist List.filter_sublist) (fun x => ?_)
  rw [mem_listF, List.mem_filter, mem_ids]
  constructor
  ·rintro ⟨i, rfl, hi, h0⟩
   rw [g.md i hi] at h0
   unfold kindOf at h0
   split at h0
   ·omega
   ·split at h0
    ·split at h0
     ·omega
     ·exact ⟨⟨by assumption, by omega⟩, by simpa⟩
    ·split at h0 <;> omega
  ·rintro ⟨⟨ht, h0⟩, ho⟩
   have ho : x ∉ c.table := by simpa using ho
   have := g.oi x ht
   refine ⟨x.toNat, by omega, by omega, ?_⟩
   rw [g.md _ (by omega), show ((x.toNat : Nat) : Int) = x by omega]
   unfold kindOf
   rw [if_neg (fun h => (g.dt x h).2 ht), if_pos ht, if_neg ho]
end Go.Proofs.YtbelcgjbhpjnpaaGreat.Sh
