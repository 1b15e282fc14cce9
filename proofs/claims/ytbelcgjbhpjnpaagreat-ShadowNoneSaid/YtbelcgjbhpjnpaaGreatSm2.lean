/- the healthy store: what it holds, as the document has it. -/
import Derived.Test.YtbelcgjbhpjnpaaGreatSm
namespace Go.Proofs.YtbelcgjbhpjnpaaGreat.Sh
open Go.RowKit Pk Dk Pg
structure St where
  many : Nat
  now : List (Option (Bool × List UInt8))
  old : List (Option (List UInt8))
  ep : Int
def isFresh : Option (Bool × List UInt8) → Bool
  | some (b, _) => b
  | none => false
def needT (k : Nat) : Nat := (k + 115) / 116
def St.fresh (a : St) : Nat := a.now.countP isFresh
def St.kept (a : St) : Nat := a.old.countP Option.isSome + needT a.old.length
def St.free (a : St) : Nat := a.many - a.kept - a.fresh
def St.slot (a : St) : Nat := a.now.findIdx Option.isNone
def putS {α : Type} (t : List α) (l : Nat) (u : α) : List α := if l = t.length then t ++ [u] else t.set l u
def St.at (a : St) (l : Int) : Option (Bool × List UInt8) := if 0 ≤ l then (a.now[l.toNat]?).getD none else none
def St.newF (a : St) (p : List UInt8) : St × Int × Int :=
  if 232 < p.length then (a, 0, 4)
  else if 512 ≤ a.slot ∨ a.free = 0 then (a, 0, 11)
  else ({ a with now := putS a.now a.slot (some (true, padL p 232)) }, (a.slot : Nat), 0)
def St.dropF (a : St) (l : Int) : St × Int := if (a.at l).isSome = true then ({ a with now := a.now.set l.toNat none }, 0) else (a, 3)
def St.readF (a : St) (l : Int) : List UInt8 × Int := match a.at l with
  | some (_, b) => (b, 0)
  | none => ([], 3)
/-- a page of data lies there -/
def PageOk (d : D) (n : Nat) (x ep : Int) : Prop := ∃ q s, 0 ≤ q ∧ q ≤ ep ∧ s.length = 232 ∧ preadF d n x = (⟨x, q, 2, s⟩, 0)
def kindOf (c : C) (x : Int) : Int := if x ∈ c.parts then 1 else if x ∈ c.old then (if x ∈ c.table then 1 else 3) else if x ∈ c.table then 2 else 0
structure Good (c : C) (n : Nat) : Prop where
  up : c.d.down = false
  arm : c.d.armed = 0
  br : c.broken = false
  ok : c.d.Ok n
  ml : c.m.length = pagesF n
  ep : 1 ≤ c.ep ∧ c.ep < 1099511627776
  sl : c.slot = 0 ∨ c.slot = 1
  ti : ∀ x ∈ c.table, x = -1 ∨ (0 ≤ x ∧ x < c.m.length)
  oi : ∀ x ∈ c.old, x = -1 ∨ (0 ≤ x ∧ x < c.m.length)
  pi : ∀ x ∈ c.parts, 0 ≤ x ∧ x < c.m.length
  tj : Inj c.table
  oj : Inj c.old
  pj : Inj c.parts
  dt : ∀ x ∈ c.parts, x ∉ c.table ∧ x ∉ c.old
  pl : c.parts.length = needT c.old.length
  sm : ∀ (i : Nat) (x : Int), c.table[i]? = some x → 0 ≤ x → x ∈ c.old → c.old[i]? = some x
  md : ∀ i : Nat, i < c.m.length → c.m.getD i 0 = kindOf c i
  rt : ∀ x ∈ c.table, 0 ≤ x → PageOk c.d n x (c.ep + 1)
  ro : ∀ x ∈ c.old, 0 ≤ x → PageOk c.d n x c.ep
def C.slotOf (c : C) (n : Nat) (x : Int) : Option (Bool × List UInt8) := if x < 0 then none else some (decide (x ∉ c.old), (preadF c.d n x).1.s)
def C.absF (c : C) (n : Nat) : St := { many := c.m.length, now := c.table.map (c.slotOf n), old := c.old.map fun x => if x < 0 then none else some (preadF c.d n x).1.s, ep := c.ep }
/-- what is free is counted -/
theorem free_count {c : C} {n : Nat} (g : Good c n) : (Fm.listF c.m 0).length = (c.absF n).free ∧ (c.absF n).fresh + (c.absF n).kept ≤ c.m.length := by
  obtain ⟨F, hF⟩ : ∃ F, F = (ids c.table).filter (fun x => decide (x ∉ c.old)) := ⟨_, rfl⟩
  have hFl : F.length = (c.absF n).fresh := by
    rw [hF]
    unfold St.fresh C.absF ids
    rw [List.filter_filter, ← List.countP_eq_length_filter, List.countP_map]
    apply List.countP_congr
    intro x hx
    simp only [Function.comp, C.slotOf]
    by_cases h : x < 0
    · rw [if_pos h]; simp [isFresh]; omega
    · rw [if_neg h]; simp [isFresh]; omega
  have hKl : (c.parts ++ ids c.old).length = (c.absF n).kept := by
    unfold St.kept C.absF ids
    rw [List.length_append, g.pl, ← List.countP_eq_length_filter, List.countP_map, List.length_map]
    have : c.old.countP (fun x => decide (0 ≤ x)) = c.old.countP (Option.isSome ∘ fun x => if x < 0 then none else some (preadF c.d n x).1.s) := by
      apply List.countP_congr
      intro x hx
      simp only [Function.comp]
      by_cases h : x < 0
      · rw [if_pos h]; simp; omega
      · rw [if_neg h]; simp; omega
    omega
  have hmF : ∀ x, x ∈ F ↔ x ∈ c.table ∧ 0 ≤ x ∧ x ∉ c.old := by
    intro x
    rw [hF, List.mem_filter, mem_ids]
    simp [and_assoc]
  have hnd : (Fm.listF c.m 0 ++ F ++ (c.parts ++ ids c.old)).Nodup := by
    rw [List.nodup_append, List.nodup_append, List.nodup_append]
    have hp : c.parts.Nodup := by
      have := ids_nodup g.pj
      rwa [show ids c.parts = c.parts from List.filter_eq_self.2 (fun x hx => by simpa using (g.pi x hx).1)] at this
    refine ⟨⟨nodup_listF _ _, ?_, ?_⟩, ⟨hp, ids_nodup g.oj, ?_⟩, ?_⟩
    · rw [hF]; exact (ids_nodup g.tj).sublist List.filter_sublist
    · intro x hx y hy e
      subst e
      obtain ⟨i, rfl, hi, h0⟩ := mem_listF.1 hx
      rw [g.md i hi] at h0
      obtain ⟨h1, h2, h3⟩ := (hmF _).1 hy
      unfold kindOf at h0
      rw [if_neg h3, if_pos h1] at h0
      split at h0 <;> omega
    · intro x hx y hy e
      subst e
      exact (g.dt x hx).2 (mem_ids.1 hy).1
    · intro x hx y hy e
      subst e
      rcases List.mem_append.1 hx with hx | hx
      · obtain ⟨i, rfl, hi, h0⟩ := mem_listF.1 hx
        rw [g.md i hi] at h0
        unfold kindOf at h0
        rcases List.mem_append.1 hy with hy | hy
        · rw [if_pos hy] at h0; omega
        · rw [if_pos (mem_ids.1 hy).1] at h0
          split at h0
          · omega
          · split at h0 <;> omega
      · obtain ⟨h1, h2, h3⟩ := (hmF _).1 hx
        rcases List.mem_append.1 hy with hy | hy
        · exact (g.dt x hy).1 h1
        · exact h3 (mem_ids.1 hy).1
  have hlen := nodup_eq hnd (nodup_upto c.m.length) (fun x => by
    rw [mem_upto, List.mem_append, List.mem_append, List.mem_append, mem_listF, hmF, mem_ids]
    constructor
    · rintro ((⟨i, rfl, hi, _⟩ | ⟨h1, h2, _⟩) | (h | ⟨h1, h2⟩))
      · omega
      · have := g.ti x h1; omega
      · exact g.pi x h
      · have := g.oi x h1; omega
    · rintro ⟨h0, h1⟩
      by_cases a1 : x ∈ c.parts
      · exact .inr (.inl a1)
      by_cases a2 : x ∈ c.old
      · exact .inr (.inr ⟨a2, h0⟩)
      by_cases a3 : x ∈ c.table
      · exact .inl (.inr ⟨a3, h0, a2⟩)
      refine .inl (.inl ⟨x.toNat, by omega, by omega, ?_⟩)
      rw [g.md _ (by omega), show ((x.toNat : Nat) : Int) = x by omega]
      unfold kindOf
      rw [if_neg a1, if_neg a2, if_neg a3])
  rw [upto_length, List.length_append, List.length_append, hKl, hFl] at hlen
  refine ⟨?_, by omega⟩
  unfold St.free
  show _ = c.m.length - _ - _
  omega
end Go.Proofs.YtbelcgjbhpjnpaaGreat.Sh
