/- a pool in which nothing is dirty and nothing is held, over a healthy store: what its calls leave, plainly. -/
import Derived.Test.YtbelcgjbhpjnpaaSm4
namespace Go.Proofs.Ytbelcgjbhpjnpaa.Sh
open Go.RowKit Pk Dk Pg
def Fr.strip (f : Fr) : Fr := { f with used := false }
def Frames (a : St) (l : List Fr) : Prop := (∀ f ∈ l, f.dirty = false ∧ f.held = 0 ∧ (f.page < 0 ∨ a.readF f.page = (f.pay.data.toList, 0))) ∧ ∀ (i j : Nat) (f h : Fr), l[i]? = some f → l[j]? = some h → f.page = h.page → 0 ≤ f.page → i = j
structure PGood (s : PS) (n : Nat) : Prop where
  g : Good s.c n
  fr : Frames (s.c.absF n) s.l
theorem strip_get {l l' : List Fr} (e : l'.map Fr.strip = l.map Fr.strip) {i : Nat} {f : Fr} (h : l'[i]? = some f) : ∃ f', l[i]? = some f' ∧ f'.page = f.page ∧ f'.pay = f.pay ∧ f'.held = f.held ∧ f'.dirty = f.dirty := by
  have e1 : (l'.map Fr.strip)[i]? = (l.map Fr.strip)[i]? := by rw [e]
  rw [List.getElem?_map, List.getElem?_map, h] at e1
  cases h2 : l[i]? with
  | none => rw [h2] at e1; simp at e1
  | some f' =>
    rw [h2] at e1
    simp only [Option.map_some, Option.some.injEq] at e1
    unfold Fr.strip at e1
    injection e1 with e1 e2 e3 e4 e5
    exact ⟨f', rfl, e1.symm, e2.symm, e3.symm, e4.symm⟩
theorem strip_len {l l' : List Fr} (e : l'.map Fr.strip = l.map Fr.strip) : l'.length = l.length := by
  have := congrArg List.length e
  simpa using this
theorem Frames.strip {a : St} {l l' : List Fr} (h : Frames a l) (e : l'.map Fr.strip = l.map Fr.strip) : Frames a l' := by
  refine ⟨fun f hf => ?_, fun i j f k hi hj hp h0 => ?_⟩
  · obtain ⟨i, hi⟩ := List.getElem?_of_mem hf
    obtain ⟨f', h1, e1, e2, e3, e4⟩ := strip_get e hi
    obtain ⟨a1, a2, a3⟩ := h.1 f' (List.mem_of_getElem? h1)
    rw [e1, e2] at a3
    exact ⟨by rw [← e4]; exact a1, by rw [← e3]; exact a2, a3⟩
  · obtain ⟨f', h1, e1, _⟩ := strip_get e hi
    obtain ⟨k', h2, e2, _⟩ := strip_get e hj
    exact h.2 i j f' k' h1 h2 (by rw [e1, e2]; exact hp) (by rw [e1]; exact h0)
theorem strip_set {l : List Fr} {k : Nat} {f g : Fr} (hf : l[k]? = some f) (e : g.strip = f.strip) : (l.set k g).map Fr.strip = l.map Fr.strip := by
  rw [List.map_set, e]
  apply List.ext_getElem?
  intro i
  rw [List.getElem?_set]
  by_cases h : k = i
  · subst h
    rw [if_pos rfl, List.getElem?_map, hf]
    have : k < (l.map Fr.strip).length := by rw [List.length_map]; exact (List.getElem?_eq_some_iff.1 hf).1
    rw [if_pos this]; rfl
  · rw [if_neg h]
theorem Frames.clean {a : St} {l : List Fr} (h : Frames a l) : CleanL l := fun f hf => by
  obtain ⟨a1, a2, _⟩ := h.1 f hf
  exact ⟨a1, by omega, by omega⟩
/-- the hand finds one: nothing is held -/
theorem spin_find (s : PS) (hl : s.hand < s.l.length) (hh : ∀ f ∈ s.l, f.held = 0) : ∀ m, s.l.countP Fr.used < m → ∃ k : Nat, (s.spin m).2 = k ∧ k < s.l.length ∧ (s.spin m).1.l.map Fr.strip = s.l.map Fr.strip ∧ (s.spin m).1.c = s.c ∧ (s.spin m).1.hand < s.l.length := by
  intro m
  induction m generalizing s with
  | zero => intro h; omega
  | succ m ih =>
    intro hm
    have hf := frD_get hl
    have h0 := hh _ (List.mem_of_getElem? hf)
    have ht : (s.hand + 1) % s.l.length < s.l.length := Nat.mod_lt _ (by omega)
    unfold PS.spin
    rw [if_neg (by omega)]
    by_cases hu : (frD s.l s.hand).used = true
    · rw [if_pos hu]
      have hset := strip_set hf (g := { frD s.l s.hand with used := false }) rfl
      have hlen : (s.l.set s.hand { frD s.l s.hand with used := false }).length = s.l.length := List.length_set ..
      have hc : (s.l.set s.hand { frD s.l s.hand with used := false }).countP Fr.used < s.l.countP Fr.used := by
        rw [List.countP_set hl]
        have e : s.l[s.hand] = frD s.l s.hand := by unfold frD; rw [List.getElem?_eq_getElem hl]; rfl
        have hp : 0 < s.l.countP Fr.used := List.countP_pos_iff.2 ⟨_, List.getElem_mem hl, by rw [e]; exact hu⟩
        rw [e]
        simp [hu]
        omega
      obtain ⟨k, h1, h2, h3, h4, h5⟩ := ih { s.turn with l := s.l.set s.hand { frD s.l s.hand with used := false } } (by rw [hlen]; exact ht)
        (fun f hf2 => (List.mem_or_eq_of_mem_set hf2).elim (hh f) (fun e => by rw [e]; exact h0)) (by show List.countP _ (s.l.set _ _) < m; omega)
      rw [hlen] at h2 h5
      exact ⟨k, h1, h2, h3.trans hset, h4, h5⟩
    · rw [if_neg hu]
      exact ⟨s.hand, rfl, hl, rfl, rfl, ht⟩
theorem victim_find (s : PS) (hl : s.hand < s.l.length) (hh : ∀ f ∈ s.l, f.held = 0) : ∃ k : Nat, s.victimF.2 = k ∧ k < s.l.length ∧ s.victimF.1.l.map Fr.strip = s.l.map Fr.strip ∧ s.victimF.1.c = s.c ∧ s.victimF.1.hand < s.l.length := by
  unfold PS.victimF
  rcases ixF_le (fun f => decide (f.page < 0)) s.l with e | ⟨k, f, e, hf, _⟩
  · rw [e, if_neg (by omega)]
    exact spin_find s hl hh _ (by have := List.countP_le_length (p := Fr.used) (l := s.l); omega)
  · rw [e, if_pos (by omega)]
    exact ⟨k, rfl, (List.getElem?_eq_some_iff.1 hf).1, rfl, rfl, hl⟩
theorem findF_at {l : List Fr} {k : Nat} {f : Fr} {p : Int} (hf : l[k]? = some f) (hp : f.page = p) (h0 : 0 ≤ p) (un : ∀ (j : Nat) (h : Fr), l[j]? = some h → h.page = p → j = k) : findF l p = k := by
  unfold findF
  rw [if_neg (by omega)]
  exact ixF_hit hf (by simpa using hp) (fun j a hj ha => by
    rw [decide_eq_false_iff_not]
    intro e
    have := un j a ha e
    omega)
theorem findF_none {l : List Fr} {p : Int} (h : findF l p = -1) (h0 : 0 ≤ p) : ∀ f ∈ l, f.page ≠ p := by
  intro f hf e
  unfold findF at h
  rw [if_neg (by omega)] at h
  unfold ixF at h
  split at h
  · omega
  · rename_i hn
    exact hn (List.findIdx_lt_length.2 ⟨f, hf, by simpa using e⟩)
/-- Let, of a page that lies in frame k -/
theorem letF_at {s : PS} {k : Nat} {f : Fr} {p : Int} (hf : s.l[k]? = some f) (hp : f.page = p) (h0 : 0 ≤ p) (un : ∀ (j : Nat) (h : Fr), s.l[j]? = some h → h.page = p → j = k) (hh : f.held ≠ 0) :
    s.letF p = ({ s with l := s.l.set k { f with held := f.held - 1 } }, 0) := by
  have e := findF_at hf hp h0 un
  unfold PS.letF PS.heldF
  rw [e, if_neg (by omega), show ((k : Nat) : Int).toNat = k by omega, hf]
  dsimp only
  rw [if_neg hh]
/-- what a Get leaves -/
theorem get_plain {s : PS} {n : Nat} (G : PGood s n) (hl : s.hand < s.l.length) (p : Int) :
    (s.holdF n p).2.1.data.toList = ((s.c.absF n).readF p).1 ∧ (s.holdF n p).2.2 = ((s.c.absF n).readF p).2 ∧ (∀ f ∈ (s.holdF n p).1.l, -1000 ≤ f.held ∧ f.held ≤ 1000000) ∧
    (((s.c.absF n).readF p).2 = 0 → PGood ((s.holdF n p).1.letF p).1 n ∧ ((s.holdF n p).1.letF p).1.c = s.c) ∧ (((s.c.absF n).readF p).2 ≠ 0 → (s.holdF n p).1 = s) := by
  have hr := read_good G.g p
  unfold PS.holdF
  rcases findF_le s.l p with e | ⟨k, f, e, hf, hp, h0⟩
  · rw [e, if_neg (by omega), hr]
    by_cases h2 : ((s.c.absF n).readF p).2 = 0
    · have h0 : 0 ≤ p := by
        by_cases h0 : 0 ≤ p
        · exact h0
        · unfold St.readF St.at at h2
          rw [if_neg h0] at h2
          simp at h2
      have hnone := findF_none e h0
      obtain ⟨k, v1, v2, v3, v4, v5⟩ := victim_find s hl (fun f hf => (G.fr.1 f hf).2.1)
      rw [if_neg (by simpa using h2), v1, if_neg (by omega), show ((k : Nat) : Int).toNat = k by omega]
      have FV := G.fr.strip v3
      have hlen := strip_len v3
      have hkV : k < s.victimF.1.l.length := by omega
      obtain ⟨nf, hnf⟩ : ∃ nf : Fr, nf = ⟨p, ⟨((s.c.absF n).readF p).1.toArray⟩, 1, false, true⟩ := ⟨_, rfl⟩
      rw [← hnf]
      have hget : (s.victimF.1.l.set k nf)[k]? = some nf := by rw [List.getElem?_set_self hkV]
      have hnoneV : ∀ (j : Nat) (h : Fr), s.victimF.1.l[j]? = some h → h.page ≠ p := fun j h hj => by
        obtain ⟨h', a1, a2, _⟩ := strip_get v3 hj
        rw [← a2]
        exact hnone h' (List.mem_of_getElem? a1)
      have hun : ∀ (j : Nat) (h : Fr), (s.victimF.1.l.set k nf)[j]? = some h → h.page = p → j = k := by
        intro j h hj hpp
        rw [List.getElem?_set] at hj
        by_cases e2 : k = j
        · exact e2.symm
        · rw [if_neg e2] at hj
          exact absurd hpp (hnoneV j h hj)
      have hL := letF_at (s := { s.victimF.1 with l := s.victimF.1.l.set k nf }) hget (by rw [hnf]) h0 hun (by rw [hnf]; simp)
      refine ⟨by simp, h2.symm, ?_, fun _ => ?_, fun h => absurd h2 h⟩
      · intro g hg
        rcases List.mem_or_eq_of_mem_set hg with hg | rfl
        · have := (FV.1 g hg).2.1; omega
        · rw [hnf]; simp
      · rw [hL]
        refine ⟨⟨by rw [v4]; exact G.g, ?_⟩, v4⟩
        show Frames (s.victimF.1.c.absF n) ((s.victimF.1.l.set k nf).set k { nf with held := nf.held - 1 })
        rw [v4, List.set_set]
        refine ⟨fun g hg => ?_, fun i j g1 g2 hi hj he hge => ?_⟩
        · rcases List.mem_or_eq_of_mem_set hg with hg | rfl
          · exact FV.1 g hg
          · rw [hnf]
            refine ⟨rfl, by simp, .inr ?_⟩
            show (s.c.absF n).readF p = (((s.c.absF n).readF p).1, 0)
            rw [← h2]
        · rw [List.getElem?_set] at hi hj
          by_cases e1 : k = i <;> by_cases e2 : k = j
          · omega
          · rw [if_pos e1, if_pos (by omega)] at hi
            rw [if_neg e2] at hj
            injection hi with hi
            subst hi
            exact absurd (he.symm.trans (by rw [hnf])) (hnoneV j g2 hj)
          · rw [if_neg e1] at hi
            rw [if_pos e2, if_pos (by omega)] at hj
            injection hj with hj
            subst hj
            exact absurd (he.trans (by rw [hnf])) (hnoneV i g1 hi)
          · rw [if_neg e1] at hi
            rw [if_neg e2] at hj
            exact FV.2 i j g1 g2 hi hj he hge
    · rw [if_pos h2]
      refine ⟨?_, rfl, fun f hf => by have := (G.fr.1 f hf).2.1; omega, fun h => absurd h h2, fun _ => rfl⟩
      unfold St.readF at h2 ⊢
      split
      · rename_i h; rw [h] at h2; simp at h2
      · rfl
  · have hd : frD s.l k = f := by unfold frD; rw [hf]; rfl
    have hk : k < s.l.length := (List.getElem?_eq_some_iff.1 hf).1
    rw [e, if_pos (by omega), show ((k : Nat) : Int).toNat = k from by omega, hd]
    obtain ⟨a1, a2, a3⟩ := G.fr.1 f (List.mem_of_getElem? hf)
    have a3 := a3.resolve_left (by omega)
    rw [hp] at a3
    rw [a3]
    have hget : (s.l.set k { f with held := f.held + 1, used := true })[k]? = some { f with held := f.held + 1, used := true } := by rw [List.getElem?_set_self hk]
    have hun : ∀ (j : Nat) (h : Fr), (s.l.set k { f with held := f.held + 1, used := true })[j]? = some h → h.page = p → j = k := by
      intro j h hj hpp
      rw [List.getElem?_set] at hj
      by_cases e2 : k = j
      · exact e2.symm
      · rw [if_neg e2] at hj
        exact G.fr.2 j k h f hj hf (by omega) (by omega)
    have hL := letF_at (s := { s with l := s.l.set k { f with held := f.held + 1, used := true } }) hget hp h0 hun (by show f.held + 1 ≠ 0; omega)
    refine ⟨rfl, rfl, ?_, fun _ => ?_, fun h => absurd rfl h⟩
    · intro g hg
      rcases List.mem_or_eq_of_mem_set hg with hg | rfl
      · have := (G.fr.1 g hg).2.1; omega
      · show _ ≤ f.held + 1 ∧ f.held + 1 ≤ _; omega
    · rw [hL]
      refine ⟨⟨G.g, ?_⟩, rfl⟩
      show Frames (s.c.absF n) ((s.l.set k _).set k _)
      rw [List.set_set]
      refine G.fr.strip (strip_set hf ?_)
      unfold Fr.strip
      simp only [Fr.mk.injEq, true_and, and_true]
      omega
end Go.Proofs.Ytbelcgjbhpjnpaa.Sh
