/- a pool in which nothing is dirty and nothing is held, over a healthy store: what its calls leave, plainly. -/
import Derived.Test.YtbelcgjbhpjnpaaGreatMa
import Derived.Test.YtbelcgjbhpjnpaaGreatPc
import Derived.Test.YtbelcgjbhpjnpaaGreatPd
set_option linter.all false
set_option linter.unusedVariables false
set_option linter.unusedSimpArgs false
set_option maxRecDepth 100000
namespace Go.Proofs.YtbelcgjbhpjnpaaGreat.Sh
open Go.RowKit Pk Dk Pg
def Fr.strip (f : Fr) : Fr := { f with used := false }
def Frames (a : St) (l : List Fr) : Prop := (∀ f ∈ l, f.dirty = false ∧ f.held = 0 ∧ (f.page < 0 ∨ a.readF f.page = (f.pay.data.toList, 0))) ∧ ∀ (i j : Nat) (f h : Fr), l[i]? = some f → l[j]? = some h → f.page = h.page → 0 ≤ f.page → i = j
structure PGood (s : PS) (n : Nat) : Prop where
 g : Good s.c n
 fr : Frames (s.c.absF n) s.l
theorem strip_get {l l' : List Fr} (e : l'.map Fr.strip = l.map Fr.strip) {i : Nat} {f : Fr} (h : l'[i]? = some f) : ∃ f', l[i]? = some f' ∧ f'.page = f.page ∧ f'.pay = f.pay ∧ f'.held = f.held ∧ f'.dirty = f.dirty := by
 have e1 : (l'.map Fr.strip)[i]? = (l.map Fr.strip)[i]? := by rw [e]
 rw [List.getElem?_map, List.getElem?_map, h] at e1
 cases h2 : l[i]? with
 | none => rw [h2] at e1; simp at e1
 | some f' =>
  rw [h2] at e1
  simp only [Option.map_some, Option.some.injEq] at e1
  unfold Fr.strip at e1
  injection e1 with e1 e2 e3 e4 e5
  exact ⟨f', rfl, e1.symm, e2.symm, e3.symm, e4.symm⟩
theorem strip_len {l l' : List Fr} (e : l'.map Fr.strip = l.map Fr.strip) : l'.length = l.length := by
 have := congrArg List.length e
 simpa using this
theorem Frames.strip {a : St} {l l' : List Fr} (h : Frames a l) (e : l'.map Fr.strip = l.map Fr.strip) : Frames a l' := by
 refine ⟨fun f hf => ?_, fun i j f k hi hj hp h0 => ?_⟩
 ·obtain ⟨i, hi⟩ := List.getElem?_of_mem hf
  obtain ⟨f', h1, e1, e2, e3, e4⟩ := strip_get e hi
  obtain ⟨a1, a2, a3⟩ := h.1 f' (List.mem_of_getElem? h1)
  rw [e1, e2] at a3
  exact ⟨by rw [← e4]; exact a1, by rw [← e3]; exact a2, a3⟩
 ·obtain ⟨f', h1, e1, _⟩ := strip_get e hi
  obtain ⟨k', h2, e2, _⟩ := strip_get e hj
  exact h.2 i j f' k' h1 h2 (by rw [e1, e2]; exact hp) (by rw [e1]; exact h0)
theorem strip_set {l : List Fr} {k : Nat} {f g : Fr} (hf : l[k]? = some f) (e : g.strip = f.strip) : (l.set k g).map Fr.strip = l.map Fr.strip := by
 rw [List.map_set, e]
 apply List.ext_getElem?
 intro i
 rw [List.getElem?_set]
 by_cases h : k = i
 ·subst h
  rw [if_pos rfl, List.getElem?_map, hf]
  have : k < (l.map Fr.strip).length := by rw [List.length_map]; exact (List.getElem?_eq_some_iff.1 hf).1
  rw [if_pos this]; rfl
 ·rw [if_neg h]
theorem Frames.clean {a : St} {l : List Fr} (h : Frames a l) : CleanL l := fun f hf => by
 obtain ⟨a1, a2, _⟩ := h.1 f hf
 exact ⟨a1, by omega, by omega⟩
/-- the hand finds one: nothing is held -/
theorem spin_find (s : PS) (hl : s.hand < s.l.length) (hh : ∀ f ∈ s.l, f.held = 0) : ∀ m, s.l.countP Fr.used < m → ∃ k : Nat, (s.spin m).2 = k ∧ k < s.l.length ∧ (s.spin m).1.l.map Fr.strip = s.l.map Fr.strip ∧ (s.spin m).1.c = s.c ∧ (s.spin m).1.hand < s.l.length := by
 intro m
 induction m generalizing s with
 | zero => intro h; omega
 | succ m ih =>
  intro hm
  have hf := frD_get hl
  have h0 := hh _ (List.mem_of_getElem? hf)
  have ht : (s.hand + 1) % s.l.length < s.l.length := Nat.mod_lt _ (by omega)
  unfold PS.spin
  rw [if_neg (by omega)]
  by_cases hu : (frD s.l s.hand).used = true
  ·rw [if_pos hu]
   have hset := strip_set hf (g := { frD s.l s.hand with used := false }) rfl
   have hlen : (s.l.set s.hand { frD s.l s.hand with used := false }).length = s.l.length := List.length_set ..
   have hc : (s.l.set s.hand { frD s.l s.hand with used := false }).countP Fr.used < s.l.countP Fr.used := by
    rw [List.countP_set hl]
    have e : s.l[s.hand] = frD s.l s.hand := by unfold frD; rw [List.getElem?_eq_getElem hl]; rfl
    have hp : 0 < s.l.countP Fr.used := List.countP_pos_iff.2 ⟨_, List.getElem_mem hl, by rw [e]; exact hu⟩
    rw [e]
    simp [hu]
    omega
   obtain ⟨k, h1, h2, h3, h4, h5⟩ := ih { s.turn with l := s.l.set s.hand { frD s.l s.hand with used := false } } (by rw [hlen]; exact ht)
    (fun f hf2 => (List.mem_or_eq_of_mem_set hf2).elim (hh f) (fun e => by rw [e]; exact h0)) (by show List.countP _ (s.l.set _ _) < m; omega)
   rw [hlen] at h2 h5
   exact ⟨k, h1, h2, h3.trans hset, h4, h5⟩
  ·rw [if_neg hu]
   exact ⟨s.hand, rfl, hl, rfl, rfl, ht⟩
theorem victim_find (s : PS) (hl : s.hand < s.l.length) (hh : ∀ f ∈ s.l, f.held = 0) : ∃ k : Nat, s.victimF.2 = k ∧ k < s.l.length ∧ s.victimF.1.l.map Fr.strip = s.l.map Fr.strip ∧ s.victimF.1.c = s.c ∧ s.victimF.1.hand < s.l.length := by
 unfold PS.victimF
 rcases ixF_le (fun f => decide (f.page < 0)) s.l with e | ⟨k, f, e, hf, _⟩
 ·rw [e, if_neg (by omega)]
  exact spin_find s hl hh _ (by have := List.countP_le_length (p := Fr.used) (l := s.l); omega)
 ·rw [e, if_pos (by omega)]
  exact ⟨k, rfl, (List.getElem?_eq_some_iff.1 hf).1, rfl, rfl, hl⟩
theorem findF_at {l : List Fr} {k : Nat} {f : Fr} {p : Int} (hf : l[k]? = some f) (hp : f.page = p) (h0 : 0 ≤ p) (un : ∀ (j : Nat) (h : Fr), l[j]? = some h → h.page = p → j = k) : findF l p = k := by
 unfold findF
 rw [if_neg (by omega)]
 exact ixF_hit hf (by simpa using hp) (fun j a hj ha => by
  rw [decide_eq_false_iff_not]
  intro e
  have := un j a ha e
  omega)
theorem findF_none {l : List Fr} {p : Int} (h : findF l p = -1) (h0 : 0 ≤ p) : ∀ f ∈ l, f.page ≠ p := by
 intro f hf e
 unfold findF at h
 rw [if_neg (by omega)] at h
 unfold ixF at h
 split at h
 ·omega
 ·rename_i hn
  exact hn (List.findIdx_lt_length.2 ⟨f, hf, by simpa using e⟩)
/-- Let, of a page that lies in frame k -/
theorem letF_at {s : PS} {k : Nat} {f : Fr} {p : Int} (hf : s.l[k]? = some f) (hp : f.page = p) (h0 : 0 ≤ p) (un : ∀ (j : Nat) (h : Fr), s.l[j]? = some h → h.page = p → j = k) (hh : f.held ≠ 0) :
  s.letF p = ({ s with l := s.l.set k { f with held := f.held - 1 } }, 0) := by
 have e := findF_at hf hp h0 un
 unfold PS.letF PS.heldF
 rw [e, if_neg (by omega), show ((k : Nat) : Int).toNat = k by omega, hf]
 dsimp only
 rw [if_neg hh]
/-- what a Get leaves -/
theorem get_plain {s : PS} {n : Nat} (G : PGood s n) (hl : s.hand < s.l.length) (p : Int) :
  (s.holdF n p).2.1.data.toList = ((s.c.absF n).readF p).1 ∧ (s.holdF n p).2.2 = ((s.c.absF n).readF p).2 ∧ (∀ f ∈ (s.holdF n p).1.l, -1000 ≤ f.held ∧ f.held ≤ 4000000000000) ∧
  (((s.c.absF n).readF p).2 = 0 → PGood ((s.holdF n p).1.letF p).1 n ∧ ((s.holdF n p).1.letF p).1.c = s.c) ∧ (((s.c.absF n).readF p).2 ≠ 0 → (s.holdF n p).1 = s) := by
 have hr := read_good G.g p
 unfold PS.holdF
 rcases findF_le s.l p with e | ⟨k, f, e, hf, hp, h0⟩
 ·rw [e, if_neg (by omega), hr]
  by_cases h2 : ((s.c.absF n).readF p).2 = 0
  ·have h0 : 0 ≤ p := by
    by_cases h0 : 0 ≤ p
    ·exact h0
    ·unfold St.readF St.at at h2
     rw [if_neg h0] at h2
     simp at h2
   have hnone := findF_none e h0
   obtain ⟨k, v1, v2, v3, v4, v5⟩ := victim_find s hl (fun f hf => (G.fr.1 f hf).2.1)
   rw [if_neg (by simpa using h2), v1, if_neg (by omega), show ((k : Nat) : Int).toNat = k by omega]
   have FV := G.fr.strip v3
   have hlen := strip_len v3
   have hkV : k < s.victimF.1.l.length := by omega
   obtain ⟨nf, hnf⟩ : ∃ nf : Fr, nf = ⟨p, ⟨((s.c.absF n).readF p).1.toArray⟩, 1, false, true⟩ := ⟨_, rfl⟩
   rw [← hnf]
   have hget : (s.victimF.1.l.set k nf)[k]? = some nf := by rw [List.getElem?_set_self hkV]
   have hnoneV : ∀ (j : Nat) (h : Fr), s.victimF.1.l[j]? = some h → h.page ≠ p := fun j h hj => by
    obtain ⟨h', a1, a2, _⟩ := strip_get v3 hj
    rw [← a2]
    exact hnone h' (List.mem_of_getElem? a1)
   have hun : ∀ (j : Nat) (h : Fr), (s.victimF.1.l.set k nf)[j]? = some h → h.page = p → j = k := by
    intro j h hj hpp
    rw [List.getElem?_set] at hj
    by_cases e2 : k = j
    ·exact e2.symm
    ·rw [if_neg e2] at hj
     exact absurd hpp (hnoneV j h hj)
   have hL := letF_at (s := { s.victimF.1 with l := s.victimF.1.l.set k nf }) hget (by rw [hnf]) h0 hun (by rw [hnf]; simp)
   refine ⟨by simp, h2.symm, ?_, fun _ => ?_, fun h => absurd h2 h⟩
   ·intro g hg
    rcases List.mem_or_eq_of_mem_set hg with hg | rfl
    ·have := (FV.1 g hg).2.1; omega
    ·rw [hnf]; simp
   ·rw [hL]
    refine ⟨⟨by rw [v4]; exact G.g, ?_⟩, v4⟩
    show Frames (s.victimF.1.c.absF n) ((s.victimF.1.l.set k nf).set k { nf with held := nf.held - 1 })
    rw [v4, List.set_set]
    refine ⟨fun g hg => ?_, fun i j g1 g2 hi hj he hge => ?_⟩
    ·rcases List.mem_or_eq_of_mem_set hg with hg | rfl
     ·exact FV.1 g hg
     ·rw [hnf]
      refine ⟨rfl, by simp, .inr ?_⟩
      show (s.c.absF n).readF p = (((s.c.absF n).readF p).1, 0)
      rw [← h2]
    ·rw [List.getElem?_set] at hi hj
     by_cases e1 : k = i <;> by_cases e2 : k = j
     ·omega
     ·rw [if_pos e1, if_pos (by omega)] at hi
      rw [if_neg e2] at hj
      injection hi with hi
      subst hi
      exact absurd (he.symm.trans (by rw [hnf])) (hnoneV j g2 hj)
     ·rw [if_neg e1] at hi
      rw [if_pos e2, if_pos (by omega)] at hj
      injection hj with hj
      subst hj
      exact absurd (he.trans (by rw [hnf])) (hnoneV i g1 hi)
     ·rw [if_neg e1] at hi
      rw [if_neg e2] at hj
      exact FV.2 i j g1 g2 hi hj he hge
  ·rw [if_pos h2]
   refine ⟨?_, rfl, fun f hf => by have := (G.fr.1 f hf).2.1; omega, fun h => absurd h h2, fun _ => rfl⟩
   unfold St.readF at h2 ⊢
   split
   ·rename_i h; rw [h] at h2; simp at h2
   ·rfl
 ·have hd : frD s.l k = f := by unfold frD; rw [hf]; rfl
  have hk : k < s.l.length := (List.getElem?_eq_some_iff.1 hf).1
  rw [e, if_pos (by omega), show ((k : Nat) : Int).toNat = k from by omega, hd]
  obtain ⟨a1, a2, a3⟩ := G.fr.1 f (List.mem_of_getElem? hf)
  have a3 := a3.resolve_left (by omega)
  rw [hp] at a3
  rw [a3]
  have hget : (s.l.set k { f with held := f.held + 1, used := true })[k]? = some { f with held := f.held + 1, used := true } := by rw [List.getElem?_set_self hk]
  have hun : ∀ (j : Nat) (h : Fr), (s.l.set k { f with held := f.held + 1, used := true })[j]? = some h → h.page = p → j = k := by
   intro j h hj hpp
   rw [List.getElem?_set] at hj
   by_cases e2 : k = j
   ·exact e2.symm
   ·rw [if_neg e2] at hj
    exact G.fr.2 j k h f hj hf (by omega) (by omega)
  have hL := letF_at (s := { s with l := s.l.set k { f with held := f.held + 1, used := true } }) hget hp h0 hun (by show f.held + 1 ≠ 0; omega)
  refine ⟨rfl, rfl, ?_, fun _ => ?_, fun h => absurd rfl h⟩
  ·intro g hg
   rcases List.mem_or_eq_of_mem_set hg with hg | rfl
   ·have := (G.fr.1 g hg).2.1; omega
   ·show _ ≤ f.held + 1 ∧ f.held + 1 ≤ _; omega
  ·rw [hL]
   refine ⟨⟨G.g, ?_⟩, rfl⟩
   show Frames (s.c.absF n) ((s.l.set k _).set k _)
   rw [List.set_set]
   refine G.fr.strip (strip_set hf ?_)
   unfold Fr.strip
   simp only [Fr.mk.injEq, true_and, and_true]
   omega
end Go.Proofs.YtbelcgjbhpjnpaaGreat.Sh

/- a pool in which nothing is dirty and nothing is held, over a healthy store: its calls as the document has them. -/
namespace Go.Proofs.YtbelcgjbhpjnpaaGreat.Sh
open Go.RowKit Pk Dk Pg
theorem at_set {a : St} {l q : Int} (h : q ≠ l) (hl : 0 ≤ l) (v : Option (Bool × List UInt8)) : ({ a with now := a.now.set l.toNat v } : St).at q = a.at q := by
 unfold St.at
 by_cases h0 : 0 ≤ q
 ·rw [if_pos h0, if_pos h0]
  show ((a.now.set l.toNat v)[q.toNat]?).getD none = _
  rw [List.getElem?_set, if_neg (by omega)]
 ·rw [if_neg h0, if_neg h0]
theorem read_drop {a : St} {l q : Int} (h : q ≠ l) : (a.dropF l).1.readF q = a.readF q := by
 unfold St.dropF
 split
 ·rename_i hs
  unfold St.readF
  rw [at_set h (at_some hs).1]
 ·rfl
theorem at_put {a : St} (v : Option (Bool × List UInt8)) (q : Int) : ({ a with now := putS a.now a.slot v } : St).at q = if q = (a.slot : Nat) then v else a.at q := by
 unfold St.at
 by_cases h0 : 0 ≤ q
 ·rw [if_pos h0]
  show ((putS a.now a.slot v)[q.toNat]?).getD none = _
  rw [get_putT _ _ _ (slot_le a)]
  by_cases e : q = (a.slot : Nat)
  ·rw [if_pos e, if_pos (by omega)]; rfl
  ·rw [if_neg e, if_neg (by omega), if_pos h0]
 ·rw [if_neg h0, if_neg (by omega), if_neg h0]
theorem read_new {a : St} {q : Int} (h : (a.readF q).2 = 0) (p : List UInt8) : (a.newF p).1.readF q = a.readF q := by
 unfold St.newF
 split
 ·rfl
 ·split
  ·rfl
  ·unfold St.readF
   rw [at_put, if_neg]
   rintro rfl
   unfold St.readF at h
   rw [slot_none] at h
   simp at h
theorem Frames.new {a : St} {l : List Fr} (h : Frames a l) (p : List UInt8) : Frames (a.newF p).1 l :=
 ⟨fun f hf => by
  obtain ⟨a1, a2, a3⟩ := h.1 f hf
  exact ⟨a1, a2, a3.imp id (fun e => by rw [read_new (by rw [e]) p]; exact e)⟩, h.2⟩
theorem Frames.drop {a : St} {l : List Fr} (h : Frames a l) (q : Int) (hn : ∀ f ∈ l, f.page = q → f.page < 0) : Frames (a.dropF q).1 l :=
 ⟨fun f hf => by
  obtain ⟨a1, a2, a3⟩ := h.1 f hf
  refine ⟨a1, a2, a3.imp id (fun e => ?_)⟩
  by_cases e2 : f.page = q
  ·have := hn f hf e2
   unfold St.readF St.at at e
   rw [if_neg (by omega)] at e
   simp at e
  ·rw [read_drop e2]; exact e, h.2⟩
theorem Frames.nil {a : St} {l : List Fr} (h : Frames a l) (k : Nat) : Frames a (l.set k Fr.nil) := by
 refine ⟨fun f hf => ?_, fun i j f g hi hj he h0 => ?_⟩
 ·rcases List.mem_or_eq_of_mem_set hf with hf | rfl
  ·exact h.1 f hf
  ·exact ⟨rfl, rfl, .inl (by show (-1 : Int) < 0; omega)⟩
 ·rw [List.getElem?_set] at hi hj
  have hnil : ¬ 0 ≤ Fr.nil.page := by show ¬ (0 : Int) ≤ -1; omega
  by_cases e1 : k = i <;> by_cases e2 : k = j
  ·omega
  ·rw [if_pos e1] at hi
   split at hi
   ·injection hi with hi; subst hi; exact absurd h0 hnil
   ·cases hi
  ·rw [if_pos e2] at hj
   split at hj
   ·injection hj with hj; subst hj; exact absurd (by rw [← he]; exact h0) hnil
   ·cases hj
  ·rw [if_neg e1] at hi
   rw [if_neg e2] at hj
   exact h.2 i j f g hi hj he h0
/-- a pool, a store in it, and what the document says of them: F the blocks, k a bound on the disk's calls -/
def AtQ (w : World) (pb sb : Nat) (F : List Nat) (a : St) (k : Int) : Prop := ∃ y n s, y.pb = pb ∧ y.x.b = sb ∧ y.fp = F ∧ AtP w y n s ∧ PGood s n ∧ s.c.absF n = a ∧ s.c.d.calls ≤ k
/-- behind a call -/
def PostQ (w w' : World) (pb sb : Nat) (F : List Nat) (a : St) (k : Int) : Prop := ∃ F', AtQ w' pb sb F' a k ∧ Only F w w' ∧ ∀ g ∈ F', g ∈ F ∨ w.heap.size ≤ g
section
variable {w w' : World} {pb sb : Nat} {F S : List Nat} {a : St} {k : Int}
theorem AtQ.only (h : AtQ w pb sb F a k) (ho : Only S w w') (hd : ∀ g ∈ F, g ∉ S) : AtQ w' pb sb F a k := by
 obtain ⟨y, n, s, e1, e2, e3, A, G, e4, e5⟩ := h
 exact ⟨y, n, s, e1, e2, e3, A.only ho (by rw [e3]; exact hd), G, e4, e5⟩
theorem AtQ.below (h : AtQ w pb sb F a k) (hb : Below w.heap.size w w') : AtQ w' pb sb F a k := h.only (S := []) (.of_below hb) (by simp)
theorem AtQ.lt (h : AtQ w pb sb F a k) : ∀ g ∈ F, g < w.heap.size := by
 obtain ⟨y, n, s, e1, e2, e3, A, G, e4, e5⟩ := h
 rw [← e3]; exact A.lt
theorem AtQ.le {j : Int} (h : AtQ w pb sb F a k) (hj : k ≤ j) : AtQ w pb sb F a j := by
 obtain ⟨y, n, s, e1, e2, e3, A, G, e4, e5⟩ := h
 exact ⟨y, n, s, e1, e2, e3, A, G, e4, by omega⟩
theorem AtQ.len (h : AtQ w pb sb F a k) {l : Int} (hr : (a.readF l).2 = 0) : (a.readF l).1.length = 232 := by
 obtain ⟨y, n, s, e1, e2, e3, A, G, e4, e5⟩ := h
 rw [← e4] at hr ⊢
 exact read_len G.g hr
theorem PostQ.self (h : AtQ w' pb sb F a k) (ho : Only F w w') : PostQ w w' pb sb F a k := ⟨F, h, ho, fun _ hg => .inl hg⟩
theorem PostQ.trans {w1 w2 : World} {a1 a2 : St} {k1 k2 : Int} (h : PostQ w w1 pb sb F a1 k1) (hn : ∀ F', AtQ w1 pb sb F' a1 k1 → PostQ w1 w2 pb sb F' a2 k2) : PostQ w w2 pb sb F a2 k2 := by
 obtain ⟨F1, A1, o1, f1⟩ := h
 obtain ⟨F2, A2, o2, f2⟩ := hn F1 A1
 refine ⟨F2, A2, o1.trans_of o2 (fun g hg hlt => (f1 g hg).elim id (fun h => by omega)), fun g hg => ?_⟩
 rcases f2 g hg with h | h
 ·exact f1 g h
 ·exact .inr (Nat.le_trans o1.size h)
theorem qget_any (h : AtQ w pb sb F a k) (p : Int) :
  Calls Tryz.prog 46 #[pp pb, .int .i64 p] w fun e w' => e = .returned (.tuple #[.string ⟨(a.readF p).1.toArray⟩, .int .i64 (a.readF p).2]) ∧ AtQ w' pb sb F a k ∧ Only F w w' := by
 obtain ⟨y, n, s, rfl, rfl, rfl, A, G, rfl, e5⟩ := h
 obtain ⟨r1, r2, r3, r4, r5⟩ := get_plain G A.lh p
 have hc := G.fr.clean
 have hb1 : (s.holdF n p).2.1 = ⟨((s.c.absF n).readF p).1.toArray⟩ := by
  apply ByteArray.ext
  apply Array.toList_inj.1
  exact r1
 by_cases h0 : ((s.c.absF n).readF p).2 = 0
 ·refine (get_good A p hc (by rw [r2, h0]) r3).mono ?_
  rintro e w' ⟨rfl, A', o⟩
  obtain ⟨G2, c2⟩ := r4 h0
  exact ⟨by rw [hb1, h0], ⟨y, n, _, rfl, rfl, rfl, A', G2, by rw [c2], by rw [c2]; exact e5⟩, o⟩
 ·refine (get_bad A p hc (by rw [r2]; exact h0)).mono ?_
  rintro e w' ⟨rfl, A', o⟩
  rw [r5 h0] at A'
  have : ((s.c.absF n).readF p).1 = [] := by
   unfold St.readF at h0 ⊢
   split
   ·rename_i h; rw [h] at h0; simp at h0
   ·rfl
  exact ⟨by rw [r2, this], ⟨y, n, s, rfl, rfl, rfl, A', G, rfl, e5⟩, o⟩
theorem qnew_any (h : AtQ w pb sb F a k) (v : ByteArray) (hs : v.size ≤ 9223372036854775807) (hk : k ≤ 3999999999999999990) :
  Calls Tryz.prog 53 #[pp pb, .string v] w fun e w' => e = .returned (.tuple #[.int .i64 (a.newF v.data.toList).2.1, .int .i64 (a.newF v.data.toList).2.2]) ∧ PostQ w w' pb sb F (a.newF v.data.toList).1 (k + 4) := by
 obtain ⟨y, n, s, rfl, rfl, rfl, A, G, rfl, e5⟩ := h
 obtain ⟨g1, g2, g3, g4, _⟩ := new_good G.g v.data.toList
 have he := G.g.ep
 refine (pmake_any A v hs (by omega) (by omega) (by rw [G.g.arm]; omega)).mono ?_
 rintro e w' ⟨rfl, y', a1, a2, a3, a4, a5, A', o, fr⟩
 refine ⟨by rw [g3], y'.fp, ⟨y', n, _, a1, a4, rfl, A', ⟨g1, ?_⟩, g2, by show (s.c.newF n v.data.toList).1.d.calls ≤ k + 4; omega⟩, o, fr⟩
 show Frames ((s.c.newF n v.data.toList).1.absF n) s.l
 rw [g2]
 exact G.fr.new _
theorem qdrop_any (h : AtQ w pb sb F a k) (p : Int) :
  Calls Tryz.prog 58 #[pp pb, .int .i64 p] w fun e w' => e = .returned (.int .i64 (a.dropF p).2) ∧ AtQ w' pb sb F (a.dropF p).1 k ∧ Only F w w' := by
 obtain ⟨y, n, s, rfl, rfl, rfl, A, G, rfl, e5⟩ := h
 obtain ⟨g1, g2, g3, g4, _⟩ := drop_good G.g p
 rcases findF_le s.l p with e | ⟨j, f, e, hf, hp, h0⟩
 ·refine (pdrop_out A p e).mono ?_
  rintro e w' ⟨rfl, A', o⟩
  refine ⟨by rw [g3], ⟨y, n, _, rfl, rfl, rfl, A', ⟨g1, ?_⟩, g2, by show (s.c.dropF p).1.d.calls ≤ k; rw [g4]; exact e5⟩, o⟩
  show Frames ((s.c.dropF p).1.absF n) s.l
  rw [g2]
  exact G.fr.drop p (fun f hf hp => by
   by_cases h0 : 0 ≤ p
   ·exact absurd hp (findF_none (by assumption) h0 f hf)
   ·omega)
 ·refine (pdrop_in A p j e hf (G.fr.1 f (List.mem_of_getElem? hf)).2.1).mono ?_
  rintro e w' ⟨rfl, A', o⟩
  refine ⟨by rw [g3], ?_, o⟩
  have hun : ∀ (i : Nat) (g : Fr), s.l[i]? = some g → g.page = p → i = j := fun i g hi hg => G.fr.2 i j g f hi hf (by omega) (by omega)
  by_cases hz : (s.c.dropF p).2 = 0
  ·rw [if_pos hz] at A'
   refine ⟨y, n, _, rfl, rfl, rfl, A', ⟨g1, ?_⟩, g2, by show (s.c.dropF p).1.d.calls ≤ k; rw [g4]; exact e5⟩
   show Frames ((s.c.dropF p).1.absF n) (s.l.set j Fr.nil)
   rw [g2]
   refine (G.fr.nil j).drop p (fun g hg hgp => ?_)
   obtain ⟨i, hi⟩ := List.getElem?_of_mem hg
   rw [List.getElem?_set] at hi
   by_cases e2 : j = i
   ·rw [if_pos e2] at hi
    split at hi
    ·injection hi with hi; subst hi; show (-1 : Int) < 0; omega
    ·cases hi
   ·rw [if_neg e2] at hi
    exact absurd (hun i g hi hgp).symm e2
  ·rw [if_neg hz] at A'
   have : ((s.c.absF n).dropF p).1 = s.c.absF n := by
    rw [g3] at hz
    unfold St.dropF at hz ⊢
    split
    ·rename_i h; rw [if_pos h] at hz; simp at hz
    ·rfl
   refine ⟨y, n, _, rfl, rfl, rfl, A', ⟨g1, ?_⟩, g2, by show (s.c.dropF p).1.d.calls ≤ k; rw [g4]; exact e5⟩
   show Frames ((s.c.dropF p).1.absF n) s.l
   rw [g2, this]
   exact G.fr
theorem qstore_any (h : AtQ w pb sb F a k) : Calls Tryz.prog 60 #[pp pb] w fun e w' => e = .returned (sp sb) ∧ w = w' := by
 obtain ⟨y, n, s, rfl, rfl, rfl, A, G, rfl, e5⟩ := h
 exact pstore_any A
theorem qcount_any (h : AtQ w pb sb F a k) : Calls Tryz.prog 23 #[sp sb] w fun e w' => (∃ x y z : Nat, e = .returned (.tuple #[.int .i64 (a.free : Nat), .int .i64 x, .int .i64 y, .int .i64 z])) ∧ Below w.heap.size w w' := by
 obtain ⟨y, n, s, rfl, rfl, rfl, A, G, rfl, e5⟩ := h
 refine (scount_any A.hs).mono ?_
 rintro e w' ⟨rfl, hb⟩
 rw [(free_count G.g).1]
 exact ⟨⟨_, _, _, rfl⟩, hb⟩
end
theorem qpages_any {w : World} {pb sb : Nat} {F : List Nat} {a : St} {k : Int} (h : AtQ w pb sb F a k) :
  Calls Tryz.prog 36 #[sp sb] w fun e w' => ∃ A cc, e = .returned (.slice A a.pages.length cc) ∧ Slc w' 3 1 (.slice A a.pages.length cc) a.pages.length (nvs' a.pages) ∧ Below w.heap.size w w' := by
 obtain ⟨y, n, s, rfl, rfl, rfl, A, G, rfl, e5⟩ := h
 have e : pgs s.c.table s.c.table.length = (s.c.absF n).pages := by
  rw [pgs_abs (n := n) _ (Nat.le_refl _)]
  unfold St.pages C.absF
  rw [List.length_map]
 have := pages_list A.hs
 rw [e] at this
 exact this
end Go.Proofs.YtbelcgjbhpjnpaaGreat.Sh
