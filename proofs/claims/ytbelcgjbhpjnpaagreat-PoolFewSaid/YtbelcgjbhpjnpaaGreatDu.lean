/- a pool plainly: what is held stays. -/
import Derived.Test.YtbelcgjbhpjnpaaGreatDo
set_option linter.all false
set_option linter.unusedVariables false
set_option linter.unusedSimpArgs false
namespace Go.Proofs.YtbelcgjbhpjnpaaGreat.Sh
open Go.RowKit Pk Dk Pg
theorem map_set_same {α β : Type} (l : List α) (g : α → β) (k : Nat) {a b : α} (h : l[k]? = some b) (e : g a = g b) : (l.set k a).map g = l.map g := by
 rw [List.map_set]
 apply List.ext_getElem?
 intro i
 rw [List.getElem?_set]
 have hk := (List.getElem?_eq_some_iff.1 h).1
 split
 ·rename_i hi
  subst hi
  rw [if_pos (by simpa using hk), List.getElem?_map, h, e]
  rfl
 ·rfl
/-- page and held, frame by frame -/
def ph (f : Fr) : Int × Int := (f.page, f.held)
theorem spin_ph : ∀ (m : Nat) (s : QS), s.hand < s.l.length → (s.spin m).1.l.map ph = s.l.map ph
 | 0, _, _ => rfl
 | m + 1, s, hs => by
  rw [spin_succ]
  have ht : s.turn.hand < s.turn.l.length := Nat.mod_lt _ (by show 0 < s.l.length; omega)
  split
  ·exact spin_ph m s.turn ht
  ·split
   ·rw [spin_ph m { s.turn with l := s.l.set s.hand { frD s.l s.hand with used := false } } (by show s.turn.hand < (s.l.set _ _).length; rw [List.length_set]; exact ht)]
    exact map_set_same s.l ph s.hand (frD_get hs) rfl
   ·rfl
theorem spin_free : ∀ (m : Nat) (s : QS) (k : Nat) (f : Fr), s.hand < s.l.length → (s.spin m).2 = (k : Nat) → (s.spin m).1.l[k]? = some f → ¬ 0 < f.held
 | 0, _, k, _, _, h, _ => by
  have h : (-1 : Int) = (k : Nat) := h
  omega
 | m + 1, s, k, f, hs, h, hf => by
  rw [spin_succ] at h hf
  have ht : s.turn.hand < s.turn.l.length := Nat.mod_lt _ (by show 0 < s.l.length; omega)
  by_cases h1 : 0 < (frD s.l s.hand).held
  ·rw [if_pos h1] at h hf
   exact spin_free m s.turn k f ht h hf
  ·rw [if_neg h1] at h hf
   by_cases h2 : (frD s.l s.hand).used = true
   ·rw [if_pos h2] at h hf
    exact spin_free m _ k f (by show s.turn.hand < (s.l.set _ _).length; rw [List.length_set]; exact ht) h hf
   ·rw [if_neg h2] at h hf
    have e : s.hand = k := by
     have h : (s.hand : Int) = (k : Nat) := h
     omega
    have hf : s.l[k]? = some f := hf
    rw [← e, frD_get hs] at hf
    injection hf with hf
    rw [← hf]; exact h1
theorem victim_ph (q : QS) (hl : q.hand < q.l.length) : q.victimF.1.l.map ph = q.l.map ph := by
 unfold QS.victimF
 split
 ·rfl
 ·exact spin_ph _ q hl
theorem back_ph (q : QS) (k : Nat) (hk : k < q.l.length) : (q.backF k).1.l.map ph = q.l.map ph := by
 unfold QS.backF
 split
 ·split
  ·exact map_set_same q.l ph k (frD_get hk) rfl
  ·rfl
 ·rfl
theorem ph_mem {l l' : List Fr} (e : l'.map ph = l.map ph) {f : Fr} (hf : f ∈ l) : ∃ f' ∈ l', f'.page = f.page ∧ f'.held = f.held := by
 have : ph f ∈ l'.map ph := by rw [e]; exact List.mem_map_of_mem hf
 obtain ⟨f', h1, h2⟩ := List.mem_map.1 this
 exact ⟨f', h1, congrArg Prod.fst h2, congrArg Prod.snd h2⟩
theorem ph_get {l l' : List Fr} (e : l'.map ph = l.map ph) {k : Nat} {f : Fr} (hf : l[k]? = some f) : ∃ f', l'[k]? = some f' ∧ f'.page = f.page ∧ f'.held = f.held := by
 have : (l'.map ph)[k]? = (l.map ph)[k]? := by rw [e]
 rw [List.getElem?_map, List.getElem?_map, hf] at this
 cases h' : l'[k]? with
 | none => rw [h'] at this; cases this
 | some f' =>
  rw [h'] at this
  have : ph f' = ph f := by simpa using this
  exact ⟨f', rfl, congrArg Prod.fst this, congrArg Prod.snd this⟩
/-- what is held is a page -/
def Hp (l : List Fr) : Prop := ∀ f ∈ l, 0 < f.held → 0 ≤ f.page
/-- what is held stays -/
def Keeps (l l' : List Fr) : Prop := ∀ f ∈ l, 0 < f.held → ∃ f' ∈ l', f'.page = f.page
theorem Keeps.refl (l : List Fr) : Keeps l l := fun f hf _ => ⟨f, hf, rfl⟩
theorem Keeps.ph {l l' : List Fr} (e : l'.map ph = l.map ph) : Keeps l l' := fun f hf _ => by
 obtain ⟨f', h1, h2, _⟩ := ph_mem e hf
 exact ⟨f', h1, h2⟩
theorem Hp.ph {l l' : List Fr} (h : Hp l) (e : l'.map ph = l.map ph) : Hp l' := fun f hf h0 => by
 obtain ⟨f', h1, h2, h3⟩ := ph_mem e.symm hf
 rw [← h2]
 exact h f' h1 (by omega)
/-- one frame, that nobody holds, is another one -/
theorem Keeps.set {l l1 : List Fr} (e : l1.map Sh.ph = l.map Sh.ph) (k : Nat) (g : Fr) (h : ∀ f, l1[k]? = some f → ¬ 0 < f.held) : Keeps l (l1.set k g) := fun f hf h0 => by
 obtain ⟨i, hi⟩ := List.mem_iff_getElem?.1 hf
 obtain ⟨f', h1, h2, h3⟩ := ph_get e hi
 by_cases hik : i = k
 ·subst hik
  exact absurd (by omega) (h f' h1)
 ·refine ⟨f', ?_, h2⟩
  refine List.mem_of_getElem? (i := i) ?_
  rw [List.getElem?_set_ne (by omega)]
  exact h1
theorem Hp.set {l : List Fr} (h : Hp l) (k : Nat) {g : Fr} (hg : 0 < g.held → 0 ≤ g.page) : Hp (l.set k g) := fun f hf h0 => by
 rcases List.mem_or_eq_of_mem_set hf with hf | rfl
 ·exact h f hf h0
 ·exact hg h0
theorem read_pos {a : St} {p : Int} (h : (a.readF p).2 = 0) : 0 ≤ p := by
 by_cases hp : 0 ≤ p
 ·exact hp
 ·exfalso
  unfold St.readF St.at at h
  rw [if_neg hp] at h
  exact absurd h (by decide)
theorem hold_keeps {q : QS} {n K : Nat} (H : Hq q n K) (hp : Hp q.l) (p : Int) : Keeps q.l (q.holdF p).1.l ∧ Hp (q.holdF p).1.l := by
 unfold QS.holdF
 rcases findF_le q.l p with e | ⟨k, f, e, hk, he, hp0⟩
 ·rw [e, if_neg (by omega)]
  by_cases hr : (q.a.readF p).2 ≠ 0
  ·rw [if_pos hr]; exact ⟨.refl _, hp⟩
  rw [if_neg hr]
  obtain ⟨v1, v3⟩ := H.victim
  have va := victim_a q
  have vp := victim_ph q H.lh
  by_cases hv : q.victimF.2 < 0
  ·rw [if_pos hv]; exact ⟨.ph vp, hp.ph vp⟩
  rw [if_neg hv]
  rcases v3 with v3 | ⟨k, v3, hkl⟩
  ·omega
  have hfree : ∀ f, q.victimF.1.l[k]? = some f → ¬ 0 < f.held := by
   intro f hf h0
   unfold QS.victimF at v3 hf
   by_cases hx : 0 ≤ ixF (fun f => decide (f.page < 0)) q.l
   ·rw [if_pos hx] at v3 hf
    rcases ixF_le (fun f => decide (f.page < 0)) q.l with ee | ⟨k', f', ee, hf', hb⟩
    ·omega
    ·have hkk : k' = k := by have : ixF (fun f => decide (f.page < 0)) q.l = (k : Nat) := v3; omega
     subst hkk
     have : f' = f := by
      have hf : q.l[k']? = some f := hf
      rw [hf'] at hf; injection hf
     subst this
     have := hp f' (List.mem_of_getElem? hf') h0
     simp at hb
     omega
   ·rw [if_neg hx] at v3 hf
    exact spin_free _ q k f H.lh v3 hf h0
  rw [v3, show ((k : Nat) : Int).toNat = k by omega]
  have hkv : k < q.victimF.1.l.length := by omega
  have bp := back_ph q.victimF.1 k hkv
  have e2 : (q.victimF.1.backF k).1.l.map Sh.ph = q.l.map Sh.ph := bp.trans vp
  by_cases hb2 : (q.victimF.1.backF k).2 ≠ 0
  ·rw [if_pos hb2]; exact ⟨.ph e2, hp.ph e2⟩
  rw [if_neg hb2]
  refine ⟨.set e2 k _ (fun f hf h0 => ?_), (hp.ph e2).set k (fun _ => read_pos (by simpa using hr))⟩
  obtain ⟨f', h1, _, h3⟩ := ph_get bp.symm hf
  exact hfree f' h1 (by omega)
 ·rw [e, if_pos (by omega), show ((k : Nat) : Int).toNat = k by omega, frD_at hk]
  refine ⟨fun g hg h0 => ?_, hp.set k (fun _ => by show 0 ≤ f.page; omega)⟩
  obtain ⟨i, hi⟩ := List.mem_iff_getElem?.1 hg
  by_cases hik : i = k
  ·subst hik
   have : g = f := by rw [hi] at hk; injection hk
   subst this
   exact ⟨{ g with held := g.held + 1, used := true }, List.mem_of_getElem? (i := i) (by rw [List.getElem?_set_self (List.getElem?_eq_some_iff.1 hi).1]), rfl⟩
  ·exact ⟨g, List.mem_of_getElem? (i := i) (by rw [List.getElem?_set_ne (by omega)]; exact hi), rfl⟩
/-- pages, frame by frame -/
def pgs15 (l : List Fr) : List Int := l.map Fr.page
theorem Keeps.pages {l l' : List Fr} (e : l'.map Fr.page = l.map Fr.page) : Keeps l l' := fun f hf _ => by
 have : f.page ∈ l'.map Fr.page := by rw [e]; exact List.mem_map_of_mem hf
 obtain ⟨f', h1, h2⟩ := List.mem_map.1 this
 exact ⟨f', h1, h2⟩
theorem let_pages (q : QS) (p : Int) : (q.letF p).1.l.map Fr.page = q.l.map Fr.page := by
 unfold QS.letF
 cases hh : q.heldF p with
 | none => rfl
 | some kf => exact map_set_same q.l Fr.page kf.1 (heldF_get hh).1 rfl
theorem set_pages (q : QS) (p : Int) (b : ByteArray) : (q.setF p b).1.l.map Fr.page = q.l.map Fr.page := by
 unfold QS.setF
 split
 ·rfl
 ·cases hh : q.heldF p with
  | none => rfl
  | some kf => exact map_set_same q.l Fr.page kf.1 (heldF_get hh).1 rfl
theorem let_hp {q : QS} (hp : Hp q.l) (p : Int) : Hp (q.letF p).1.l := by
 unfold QS.letF
 cases hh : q.heldF p with
 | none => exact hp
 | some kf =>
  refine hp.set kf.1 (fun h0 => hp kf.2 (List.mem_of_getElem? (heldF_get hh).1) ?_)
  have : 0 < kf.2.held - 1 := h0
  omega
theorem set_hp {q : QS} (hp : Hp q.l) (p : Int) (b : ByteArray) : Hp (q.setF p b).1.l := by
 unfold QS.setF
 split
 ·exact hp
 ·cases hh : q.heldF p with
  | none => exact hp
  | some kf => exact hp.set kf.1 (fun h0 => hp kf.2 (List.mem_of_getElem? (heldF_get hh).1) h0)
theorem Keeps.trans_pages {l l1 l2 : List Fr} (h : Keeps l l1) (e : l2.map Fr.page = l1.map Fr.page) : Keeps l l2 := fun f hf h0 => by
 obtain ⟨f1, h1, h2⟩ := h f hf h0
 have : f1.page ∈ l2.map Fr.page := by rw [e]; exact List.mem_map_of_mem h1
 obtain ⟨f', h3, h4⟩ := List.mem_map.1 this
 exact ⟨f', h3, h4.trans h2⟩
theorem step_keeps {q : QS} {n K : Nat} (H : Hq q n K) (hp : Hp q.l) (kd l : Int) (s : ByteArray) : (kd ≠ 14 → Keeps q.l (q.stepF kd l s).l) ∧ Hp (q.stepF kd l s).l := by
 have hh := hold_keeps H hp l
 unfold QS.stepF
 split
 ·exact ⟨fun _ => .refl _, hp⟩
 ·split
  ·exact ⟨fun _ => hh.1, hh.2⟩
  ·split
   ·exact ⟨fun _ => .pages (let_pages q l), let_hp hp l⟩
   ·split
    ·exact ⟨fun _ => .pages (set_pages q l s), set_hp hp l s⟩
    ·split
     ·unfold QS.getF
      split
      ·exact ⟨fun _ => hh.1, hh.2⟩
      ·exact ⟨fun _ => hh.1.trans_pages (let_pages _ l), let_hp hh.2 l⟩
     ·split
      ·unfold QS.dropF
       split
       ·exact ⟨fun _ => .refl _, hp⟩
       ·rename_i hn
        split
        ·exact ⟨fun _ => .refl _, hp⟩
        ·split
         ·rename_i h0
          refine ⟨fun _ => .set rfl _ _ (fun f hf h => hn ⟨h0, ?_⟩), hp.set _ (fun h => absurd h (by decide))⟩
          rw [frD_at hf]; exact h
         ·exact ⟨fun _ => .refl _, hp⟩
      ·split
       ·unfold QS.evictF
        split
        ·exact ⟨fun _ => .refl _, hp⟩
        ·split
         ·exact ⟨fun _ => .refl _, hp⟩
         ·split
          ·exact ⟨fun _ => .refl _, hp⟩
          ·rename_i hi _ hn
           have bp := back_ph q l.toNat (by omega)
           split
           ·exact ⟨fun _ => .ph bp, hp.ph bp⟩
           ·refine ⟨fun _ => .set bp _ _ (fun f hf h => hn ?_), (hp.ph bp).set _ (fun h => absurd h (by decide))⟩
            obtain ⟨f', h1, _, h3⟩ := ph_get bp.symm hf
            rw [frD_at h1]; omega
       ·split
        ·have hb : ∀ i, i ≤ q.l.length → (q.backsF i).1.l.map Sh.ph = q.l.map Sh.ph := by
          intro i
          induction i with
          | zero => intro _; rfl
          | succ i ih =>
           intro hi
           rw [backs_s]
           split
           ·exact ih (by omega)
           ·rw [back_ph _ i (by rw [(H.backs i (by omega)).2]; omega)]
            exact ih (by omega)
         have e := hb q.l.length (Nat.le_refl _)
         unfold QS.commitF
         split
         ·exact ⟨fun _ => .refl _, hp⟩
         ·split
          ·exact ⟨fun _ => .ph e, hp.ph e⟩
          ·exact ⟨fun _ => .ph e, hp.ph e⟩
        ·split
         ·rename_i h14
          refine ⟨fun h => absurd h14 h, fun f hf h0 => ?_⟩
          rw [List.eq_of_mem_replicate hf] at h0
          exact absurd h0 (by decide)
         ·unfold QS.putF
          split
          ·exact ⟨fun _ => .refl _, hp⟩
          ·split
           ·exact ⟨fun _ => hh.1, hh.2⟩
           ·exact ⟨fun _ => (hh.1.trans_pages (set_pages _ l s)).trans_pages (let_pages _ l), let_hp (set_hp hh.2 l s) l⟩
end Go.Proofs.YtbelcgjbhpjnpaaGreat.Sh
