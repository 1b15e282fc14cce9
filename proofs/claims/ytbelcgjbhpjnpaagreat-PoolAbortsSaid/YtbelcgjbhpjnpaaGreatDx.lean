/- a pool plainly: what whoever goes through it reads. -/
import Derived.Test.YtbelcgjbhpjnpaaGreatDm
set_option linter.all false
set_option linter.unusedVariables false
set_option linter.unusedSimpArgs false
namespace Go.Proofs.YtbelcgjbhpjnpaaGreat.Sh
open Go.RowKit Pk Dk Pg
theorem at_some15 {a : St} {l : Int} (h : (a.at l).isSome = true) : 0 ≤ l ∧ l.toNat < a.now.length := by
 unfold St.at at h
 by_cases h0 : 0 ≤ l
 ·rw [if_pos h0] at h
  refine ⟨h0, ?_⟩
  by_cases hl : l.toNat < a.now.length
  ·exact hl
  ·rw [List.getElem?_eq_none (by omega)] at h
   cases h
 ·rw [if_neg h0] at h; cases h
theorem read_ok {a : St} {l : Int} : (a.readF l).2 = 0 ↔ (a.at l).isSome = true := by
 unfold St.readF
 cases h : a.at l with
 | none => simp
 | some u => simp
theorem write_read {a : St} {l : Int} {p : List UInt8} (h : (a.writeF l p).2 = 0) (j : Int) : (a.writeF l p).1.readF j = if j = l then (padL p 232, 0) else a.readF j := by
 unfold St.writeF at h ⊢
 by_cases h1 : 232 < p.length
 ·rw [if_pos h1] at h; exact absurd h (by show (4 : Int) ≠ 0; decide)
 rw [if_neg h1] at h ⊢
 by_cases h2 : ¬ (a.at l).isSome = true
 ·rw [if_pos h2] at h; exact absurd h (by show (3 : Int) ≠ 0; decide)
 rw [if_neg h2] at h ⊢
 by_cases h3 : isFresh (a.at l) = false ∧ a.free = 0
 ·rw [if_pos h3] at h; exact absurd h (by show (11 : Int) ≠ 0; decide)
 rw [if_neg h3]
 obtain ⟨l0, l1⟩ := at_some15 (Classical.not_not.1 h2)
 have hat : St.at { a with now := a.now.set l.toNat (some (true, padL p 232)) } j = if j = l then some (true, padL p 232) else a.at j := by
  unfold St.at
  by_cases hj : j = l
  ·subst hj
   rw [if_pos l0, if_pos rfl]
   show ((a.now.set j.toNat _)[j.toNat]?).getD none = _
   rw [List.getElem?_set_self l1]
   rfl
  ·rw [if_neg hj]
   by_cases h0 : 0 ≤ j
   ·rw [if_pos h0, if_pos h0]
    show ((a.now.set l.toNat _)[j.toNat]?).getD none = _
    rw [List.getElem?_set_ne (by omega)]
   ·rw [if_neg h0, if_neg h0]
 show St.readF { a with now := a.now.set l.toNat (some (true, padL p 232)) } j = _
 unfold St.readF
 rw [hat]
 by_cases hj : j = l
 ·rw [if_pos hj, if_pos hj]
 ·rw [if_neg hj, if_neg hj]
/-- what Get tells of a page -/
def QS.vw (q : QS) (j : Int) : List UInt8 × Int := if 0 ≤ findF q.l j then ((frD q.l (findF q.l j).toNat).pay.data.toList, 0) else q.a.readF j
/-- a pool whose frames are of the store -/
structure Vi (q : QS) : Prop where
 un : ∀ (i j : Nat) (f h : Fr), q.l[i]? = some f → q.l[j]? = some h → f.page = h.page → 0 ≤ f.page → i = j
 cl : ∀ f ∈ q.l, 0 ≤ f.page → f.dirty = false → q.a.readF f.page = (f.pay.data.toList, 0)
 ex : ∀ f ∈ q.l, 0 ≤ f.page → (q.a.readF f.page).2 = 0
 em : ∀ f ∈ q.l, f.page < 0 → f.dirty = false
 fl : ∀ f ∈ q.l, 0 ≤ f.page → f.pay.size = 232
theorem find_at {l : List Fr} {k : Nat} {f : Fr} (hf : l[k]? = some f) (h0 : 0 ≤ f.page) (un : ∀ (j : Nat) (h : Fr), l[j]? = some h → h.page = f.page → j = k) : findF l f.page = k := by
 unfold findF
 rw [if_neg (by omega)]
 exact ixF_hit hf (by simp) (fun j a hj hja => by
  simp only [decide_eq_false_iff_not]
  intro e
  have := un j a hja e
  omega)
theorem find_not {l : List Fr} {j : Int} (h : j < 0 ∨ ∀ f ∈ l, f.page ≠ j) : findF l j = -1 := by
 unfold findF
 by_cases h0 : j < 0
 ·rw [if_pos h0]
 ·rw [if_neg h0]
  exact ixF_miss (fun i a hi => by
   simp only [decide_eq_false_iff_not]
   exact h.resolve_left h0 a (List.mem_of_getElem? hi))
theorem vw_out {q : QS} {j : Int} (h : j < 0 ∨ ∀ f ∈ q.l, f.page ≠ j) : q.vw j = q.a.readF j := by
 unfold QS.vw
 rw [find_not h, if_neg (by omega)]
theorem Vi.vw_in {q : QS} (V : Vi q) {k : Nat} {f : Fr} (hf : q.l[k]? = some f) (h0 : 0 ≤ f.page) : q.vw f.page = (f.pay.data.toList, 0) := by
 unfold QS.vw
 rw [find_at hf h0 (fun j h hj e => V.un j k h f hj hf e (by omega)), if_pos (by omega), show ((k : Nat) : Int).toNat = k by omega, frD_at hf]
theorem vw_cases (q : QS) (j : Int) : (j < 0 ∨ ∀ f ∈ q.l, f.page ≠ j) ∨ ∃ (k : Nat) (f : Fr), q.l[k]? = some f ∧ f.page = j ∧ 0 ≤ j := by
 by_cases h0 : j < 0
 ·exact .inl (.inl h0)
 by_cases h : ∃ f ∈ q.l, f.page = j
 ·obtain ⟨f, hf, e⟩ := h
  obtain ⟨k, hk⟩ := List.mem_iff_getElem?.1 hf
  exact .inr ⟨k, f, hk, e, by omega⟩
 ·exact .inl (.inr (fun f hf e => h ⟨f, hf, e⟩))
/-- page, payload and dirty, frame by frame -/
def pd (f : Fr) : Int × ByteArray × Bool := (f.page, f.pay, f.dirty)
theorem pd_get {l l' : List Fr} (e : l'.map pd = l.map pd) {k : Nat} {f : Fr} (hf : l[k]? = some f) : ∃ f', l'[k]? = some f' ∧ f'.page = f.page ∧ f'.pay = f.pay ∧ f'.dirty = f.dirty := by
 have : (l'.map pd)[k]? = (l.map pd)[k]? := by rw [e]
 rw [List.getElem?_map, List.getElem?_map, hf] at this
 cases h' : l'[k]? with
 | none => rw [h'] at this; cases this
 | some f' =>
  rw [h'] at this
  have : pd f' = pd f := by simpa using this
  exact ⟨f', rfl, congrArg Prod.fst this, congrArg (fun x => x.2.1) this, congrArg (fun x => x.2.2) this⟩
theorem pd_mem {l l' : List Fr} (e : l'.map pd = l.map pd) {f : Fr} (hf : f ∈ l) : ∃ f' ∈ l', f'.page = f.page ∧ f'.pay = f.pay ∧ f'.dirty = f.dirty := by
 obtain ⟨k, hk⟩ := List.mem_iff_getElem?.1 hf
 obtain ⟨f', h1, h2⟩ := pd_get e hk
 exact ⟨f', List.mem_of_getElem? h1, h2⟩
theorem Vi.pd {q q' : QS} (V : Vi q) (ea : q'.a = q.a) (e : q'.l.map Sh.pd = q.l.map Sh.pd) : Vi q' ∧ ∀ j, q'.vw j = q.vw j := by
 have V' : Vi q' := by
  refine ⟨fun i j f h hf hh ep h0 => ?_, fun f hf h0 hd => ?_, fun f hf h0 => ?_, fun f hf h0 => ?_, fun f hf h0 => ?_⟩
  ·obtain ⟨f', a1, a2, _⟩ := pd_get e.symm hf
   obtain ⟨h', b1, b2, _⟩ := pd_get e.symm hh
   exact V.un i j f' h' a1 b1 (by omega) (by omega)
  ·obtain ⟨f', a1, a2, a3, a4⟩ := pd_mem e.symm hf
   rw [ea, ← a2, ← a3]
   exact V.cl f' a1 (by omega) (by rw [a4]; exact hd)
  ·obtain ⟨f', a1, a2, _⟩ := pd_mem e.symm hf
   rw [ea, ← a2]
   exact V.ex f' a1 (by omega)
  ·obtain ⟨f', a1, a2, _, a4⟩ := pd_mem e.symm hf
   rw [← a4]
   exact V.em f' a1 (by omega)
  ·obtain ⟨f', a1, a2, a3, _⟩ := pd_mem e.symm hf
   rw [← a3]
   exact V.fl f' a1 (by omega)
 refine ⟨V', fun j => ?_⟩
 rcases vw_cases q j with h | ⟨k, f, hf, rfl, h0⟩
 ·rw [vw_out h, vw_out (h.imp id (fun h f hf => by
   obtain ⟨f', a1, a2, _⟩ := pd_mem e.symm hf
   rw [← a2]; exact h f' a1)), ea]
 ·obtain ⟨f', a1, a2, a3, _⟩ := pd_get e hf
  rw [V.vw_in hf h0, ← a2, V'.vw_in a1 (by omega), a3]
theorem mem_set {l : List Fr} {k : Nat} {g f : Fr} (h : f ∈ l.set k g) : f = g ∨ ∃ i, i ≠ k ∧ l[i]? = some f := by
 obtain ⟨i, hi⟩ := List.mem_iff_getElem?.1 h
 by_cases hik : i = k
 ·subst hik
  rw [List.getElem?_set] at hi
  split at hi
  ·split at hi
   ·injection hi with hi; exact .inl hi.symm
   ·cases hi
  ·rename_i h; exact absurd rfl h
 ·rw [List.getElem?_set_ne (by omega)] at hi
  exact .inr ⟨i, hik, hi⟩
theorem pad_full {b : ByteArray} (h : b.size = 232) : padL b.data.toList 232 = b.data.toList := by
 have hl : b.data.toList.length = b.size := by simp
 unfold padL
 rw [hl, h]
 simp
/-- a frame is written back -/
theorem Vi.wrote {q : QS} (V : Vi q) {k : Nat} {f : Fr} (hf : q.l[k]? = some f) (h0 : 0 ≤ f.page) (hw : (q.a.writeF f.page f.pay.data.toList).2 = 0) :
  Vi { q with a := (q.a.writeF f.page f.pay.data.toList).1, l := q.l.set k { f with dirty := false } } ∧ ∀ j, QS.vw { q with a := (q.a.writeF f.page f.pay.data.toList).1, l := q.l.set k { f with dirty := false } } j = q.vw j := by
 have hr := write_read hw
 have hp := pad_full (V.fl f (List.mem_of_getElem? hf) h0)
 have hk := (List.getElem?_eq_some_iff.1 hf).1
 have ne : ∀ (i : Nat) (h : Fr), i ≠ k → q.l[i]? = some h → h.page ≠ f.page := fun i h hi hh e => hi (V.un i k h f hh hf e (by omega))
 have V' : Vi { q with a := (q.a.writeF f.page f.pay.data.toList).1, l := q.l.set k { f with dirty := false } } := by
  refine ⟨fun i j g h hg hh ep hg0 => ?_, fun g hg hg0 hd => ?_, fun g hg hg0 => ?_, fun g hg hg0 => ?_, fun g hg hg0 => ?_⟩
  ·have gt : ∀ (i : Nat) (g : Fr), (q.l.set k { f with dirty := false })[i]? = some g → ∃ g', q.l[i]? = some g' ∧ g'.page = g.page := fun i g hg => by
    by_cases hik : i = k
    ·subst hik
     rw [List.getElem?_set_self hk] at hg
     injection hg with hg
     exact ⟨f, hf, by rw [← hg]⟩
    ·rw [List.getElem?_set_ne (by omega)] at hg
     exact ⟨g, hg, rfl⟩
   obtain ⟨g', a1, a2⟩ := gt i g hg
   obtain ⟨h', b1, b2⟩ := gt j h hh
   exact V.un i j g' h' a1 b1 (by omega) (by omega)
  ·show (q.a.writeF f.page f.pay.data.toList).1.readF g.page = _
   rcases mem_set hg with rfl | ⟨i, hi, hgi⟩
   ·rw [hr, if_pos rfl, hp]
   ·rw [hr, if_neg (ne i g hi hgi)]
    exact V.cl g (List.mem_of_getElem? hgi) hg0 hd
  ·show ((q.a.writeF f.page f.pay.data.toList).1.readF g.page).2 = 0
   rcases mem_set hg with rfl | ⟨i, hi, hgi⟩
   ·rw [hr, if_pos rfl]
   ·rw [hr, if_neg (ne i g hi hgi)]
    exact V.ex g (List.mem_of_getElem? hgi) hg0
  ·rcases mem_set hg with rfl | ⟨i, hi, hgi⟩
   ·rfl
   ·exact V.em g (List.mem_of_getElem? hgi) hg0
  ·rcases mem_set hg with rfl | ⟨i, hi, hgi⟩
   ·exact V.fl f (List.mem_of_getElem? hf) h0
   ·exact V.fl g (List.mem_of_getElem? hgi) hg0
 refine ⟨V', fun j => ?_⟩
 rcases vw_cases q j with h | ⟨i, g, hg, rfl, hg0⟩
 ·rw [vw_out h, vw_out (h.imp id (fun h g hg => by
   rcases mem_set hg with rfl | ⟨i, hi, hgi⟩
   ·exact h f (List.mem_of_getElem? hf)
   ·exact h g (List.mem_of_getElem? hgi)))]
  show (q.a.writeF f.page f.pay.data.toList).1.readF j = _
  rw [hr, if_neg]
  intro e
  rcases h with h | h
  ·omega
  ·exact h f (List.mem_of_getElem? hf) e.symm
 ·rw [V.vw_in hg hg0]
  by_cases hik : i = k
  ·subst hik
   have : g = f := by rw [hg] at hf; injection hf
   subst this
   exact V'.vw_in (k := i) (f := { g with dirty := false }) (by show (q.l.set i _)[i]? = _; rw [List.getElem?_set_self hk]) hg0
  ·exact V'.vw_in (k := i) (f := g) (by show (q.l.set k _)[i]? = _; rw [List.getElem?_set_ne (by omega)]; exact hg) hg0
/-- a clean frame is another one -/
theorem Vi.swap {q : QS} (V : Vi q) {k : Nat} {f : Fr} (hf : q.l[k]? = some f) (hd : f.dirty = false) (g : Fr) (hg : g = Fr.nil ∨ (0 ≤ g.page ∧ g.dirty = false ∧ (∀ h ∈ q.l, h.page ≠ g.page) ∧ q.a.readF g.page = (g.pay.data.toList, 0) ∧ g.pay.size = 232)) :
  Vi { q with l := q.l.set k g } ∧ ∀ j, QS.vw { q with l := q.l.set k g } j = q.vw j := by
 have hk := (List.getElem?_eq_some_iff.1 hf).1
 have hgp : g.page < 0 ∨ 0 ≤ g.page := by omega
 have gn : g.page < 0 → g = Fr.nil := fun h => hg.resolve_right (fun h' => by omega)
 have gp : 0 ≤ g.page → g.dirty = false ∧ (∀ h ∈ q.l, h.page ≠ g.page) ∧ q.a.readF g.page = (g.pay.data.toList, 0) ∧ g.pay.size = 232 := fun h => by
  rcases hg with rfl | hg
  ·exact absurd h (by decide)
  ·exact hg.2
 have V' : Vi { q with l := q.l.set k g } := by
  refine ⟨fun i j f1 h1 hf1 hh1 ep h0 => ?_, fun f1 hf1 h0 hd1 => ?_, fun f1 hf1 h0 => ?_, fun f1 hf1 h0 => ?_, fun f1 hf1 h0 => ?_⟩
  ·have gt : ∀ (i : Nat) (x : Fr), (q.l.set k g)[i]? = some x → (i = k ∧ x = g) ∨ (i ≠ k ∧ q.l[i]? = some x) := fun i x hx => by
    by_cases hik : i = k
    ·subst hik
     rw [List.getElem?_set_self hk] at hx
     injection hx with hx
     exact .inl ⟨rfl, hx.symm⟩
    ·rw [List.getElem?_set_ne (by omega)] at hx
     exact .inr ⟨hik, hx⟩
   rcases gt i f1 hf1 with ⟨rfl, rfl⟩ | ⟨hi, hi'⟩
   ·rcases gt j h1 hh1 with ⟨rfl, rfl⟩ | ⟨hj, hj'⟩
    ·rfl
    ·exact absurd ep.symm ((gp h0).2.1 h1 (List.mem_of_getElem? hj'))
   ·rcases gt j h1 hh1 with ⟨rfl, rfl⟩ | ⟨hj, hj'⟩
    ·exact absurd ep ((gp (by omega)).2.1 f1 (List.mem_of_getElem? hi'))
    ·exact V.un i j f1 h1 hi' hj' ep h0
  ·rcases mem_set hf1 with rfl | ⟨i, hi, hi'⟩
   ·exact (gp h0).2.2.1
   ·exact V.cl f1 (List.mem_of_getElem? hi') h0 hd1
  ·show (q.a.readF f1.page).2 = 0
   rcases mem_set hf1 with rfl | ⟨i, hi, hi'⟩
   ·rw [(gp h0).2.2.1]
   ·exact V.ex f1 (List.mem_of_getElem? hi') h0
  ·rcases mem_set hf1 with rfl | ⟨i, hi, hi'⟩
   ·rw [gn h0]; rfl
   ·exact V.em f1 (List.mem_of_getElem? hi') h0
  ·rcases mem_set hf1 with rfl | ⟨i, hi, hi'⟩
   ·exact (gp h0).2.2.2
   ·exact V.fl f1 (List.mem_of_getElem? hi') h0
 refine ⟨V', fun j => ?_⟩
 by_cases hjg : 0 ≤ g.page ∧ g.page = j
 ·obtain ⟨h0, rfl⟩ := hjg
  rw [V'.vw_in (k := k) (f := g) (by show (q.l.set k g)[k]? = _; rw [List.getElem?_set_self hk]) h0, vw_out (.inr (gp h0).2.1)]
  exact (gp h0).2.2.1.symm
 rcases vw_cases q j with h | ⟨i, f1, hf1, rfl, h0⟩
 ·rw [vw_out h, vw_out (q := { q with l := q.l.set k g })]
  by_cases hj : j < 0
  ·exact .inl hj
  ·refine .inr (fun f1 hf1 => ?_)
   rcases mem_set hf1 with rfl | ⟨i, hi, hi'⟩
   ·intro e; exact hjg ⟨by omega, e⟩
   ·exact h.resolve_left hj f1 (List.mem_of_getElem? hi')
 ·rw [V.vw_in hf1 h0]
  by_cases hik : i = k
  ·subst hik
   have : f1 = f := by rw [hf1] at hf; injection hf
   subst this
   rw [vw_out (q := { q with l := q.l.set i g }) (.inr (fun x hx => by
    rcases mem_set hx with rfl | ⟨i', hi, hi'⟩
    ·intro e; exact hjg ⟨by omega, e⟩
    ·intro e; exact hi (V.un i' i x f1 hi' hf1 e (by omega))))]
   exact V.cl f1 (List.mem_of_getElem? hf1) h0 hd
  ·exact V'.vw_in (k := i) (f := f1) (by show (q.l.set k g)[i]? = _; rw [List.getElem?_set_ne (by omega)]; exact hf1) h0
end Go.Proofs.YtbelcgjbhpjnpaaGreat.Sh
