/- a pool plainly: Get, where nothing is dirty; what was committed. -/
import Derived.Test.YtbelcgjbhpjnpaaGreatDy
set_option linter.all false
set_option linter.unusedVariables false
set_option linter.unusedSimpArgs false
namespace Go.Proofs.YtbelcgjbhpjnpaaGreat.Sh
open Go.RowKit Pk Dk Pg
def Cl (q : QS) : Prop := ∀ f ∈ q.l, f.dirty = false
theorem Cl.bk {q : QS} (h : Cl q) : Bk q := fun f hf hd => by rw [h f hf] at hd; cases hd
theorem cl_pd {q q' : QS} (h : Cl q) (e : q'.l.map Sh.pd = q.l.map Sh.pd) : Cl q' := fun f hf => by
 obtain ⟨f', a1, _, _, a4⟩ := pd_mem e.symm hf
 rw [← a4]
 exact h f' a1
theorem cl_set {q : QS} (h : Cl q) (k : Nat) {g : Fr} (hg : g.dirty = false) : Cl { q with l := q.l.set k g } := fun f hf => by
 rcases List.mem_or_eq_of_mem_set hf with hf | rfl
 ·exact h f hf
 ·exact hg
theorem spin_pd : ∀ (m : Nat) (s : QS), s.hand < s.l.length → (s.spin m).1.l.map Sh.pd = s.l.map Sh.pd
 | 0, _, _ => rfl
 | m + 1, s, hs => by
  rw [spin_succ]
  have ht : s.turn.hand < s.turn.l.length := Nat.mod_lt _ (by show 0 < s.l.length; omega)
  split
  ·exact spin_pd m s.turn ht
  ·split
   ·rw [spin_pd m { s.turn with l := s.l.set s.hand { frD s.l s.hand with used := false } } (by show s.turn.hand < (s.l.set _ _).length; rw [List.length_set]; exact ht)]
    exact map_set_same s.l Sh.pd s.hand (frD_get hs) rfl
   ·rfl
theorem victim_pd (q : QS) (hl : q.hand < q.l.length) : q.victimF.1.l.map Sh.pd = q.l.map Sh.pd := by
 unfold QS.victimF
 split
 ·rfl
 ·exact spin_pd _ q hl
theorem back_cl {q : QS} (h : Cl q) (k : Nat) (hk : k < q.l.length) : q.backF k = (q, 0) := by
 unfold QS.backF
 rw [if_neg (by rw [h _ (List.mem_of_getElem? (frD_get hk))]; simp)]
theorem hold_cl {q : QS} {n K : Nat} (H : Hq q n K) (h : Cl q) (p : Int) : (q.holdF p).1.a = q.a ∧ Cl (q.holdF p).1 := by
 unfold QS.holdF
 rcases findF_le q.l p with e | ⟨k, f, e, hk, _, _⟩
 ·rw [e, if_neg (by omega)]
  split
  ·exact ⟨rfl, h⟩
  ·have va := victim_a q
   have vc := cl_pd (q' := q.victimF.1) h (victim_pd q H.lh)
   obtain ⟨v1, v3⟩ := H.victim
   split
   ·exact ⟨va.1, vc⟩
   ·rcases v3 with v3 | ⟨k, v3, hk⟩
    ·omega
    ·rw [v3, show ((k : Nat) : Int).toNat = k by omega, back_cl vc k (by omega), if_neg (by simp)]
     exact ⟨va.1, cl_set vc k rfl⟩
 ·rw [e, if_pos (by omega), show ((k : Nat) : Int).toNat = k by omega, frD_at hk]
  exact ⟨rfl, cl_set h k (h f (List.mem_of_getElem? hk))⟩
theorem let_cl {q : QS} (h : Cl q) (p : Int) : (q.letF p).1.a = q.a ∧ Cl (q.letF p).1 := by
 unfold QS.letF
 cases hh : q.heldF p with
 | none => exact ⟨rfl, h⟩
 | some kf => exact ⟨rfl, cl_set h kf.1 (h kf.2 (List.mem_of_getElem? (heldF_get hh).1))⟩
theorem get_cl {q : QS} {n K : Nat} (H : Hq q n K) (h : Cl q) (p : Int) : (q.getF p).1.a = q.a ∧ Cl (q.getF p).1 := by
 obtain ⟨h1, h2⟩ := hold_cl H h p
 unfold QS.getF
 split
 ·exact ⟨h1, h2⟩
 ·obtain ⟨l1, l2⟩ := let_cl h2 p
  exact ⟨l1.trans h1, l2⟩
/-- a call that is no Commit keeps what was committed -/
theorem swrite_old (a : St) (l : Int) (p : List UInt8) : (a.writeF l p).1.old = a.old := by
 unfold St.writeF
 split
 ·rfl
 ·split
  ·rfl
  ·split <;> rfl
theorem back_old (q : QS) (k : Nat) : (q.backF k).1.a.old = q.a.old := by
 unfold QS.backF
 split
 ·split
  ·exact swrite_old _ _ _
  ·exact swrite_old _ _ _
 ·rfl
theorem hold_old (q : QS) (p : Int) : (q.holdF p).1.a.old = q.a.old := by
 unfold QS.holdF
 split
 ·rfl
 ·split
  ·rfl
  ·split
   ·rw [(victim_a q).1]
   ·split
    ·rw [back_old, (victim_a q).1]
    ·show (q.victimF.1.backF _).1.a.old = _
     rw [back_old, (victim_a q).1]
theorem let_a (q : QS) (p : Int) : (q.letF p).1.a = q.a := by
 unfold QS.letF
 cases q.heldF p with
 | none => rfl
 | some kf => rfl
theorem set_a (q : QS) (p : Int) (b : ByteArray) : (q.setF p b).1.a = q.a := by
 unfold QS.setF
 split
 ·rfl
 ·cases q.heldF p with
  | none => rfl
  | some kf => rfl
theorem step_old (q : QS) (kd l : Int) (s : ByteArray) (h : kd ≠ 13) : (q.stepF kd l s).a.old = q.a.old := by
 unfold QS.stepF
 split
 ·show (q.a.newF _).1.old = _
  unfold St.newF
  split
  ·rfl
  ·split <;> rfl
 ·split
  ·exact hold_old q l
  ·split
   ·rw [let_a]
   ·split
    ·rw [set_a]
    ·split
     ·unfold QS.getF
      split
      ·exact hold_old q l
      ·rw [let_a]; exact hold_old q l
     ·split
      ·unfold QS.dropF
       have hd : (q.a.dropF l).1.old = q.a.old := by
        unfold St.dropF
        split <;> rfl
       split
       ·rfl
       ·split
        ·exact hd
        ·split
         ·exact hd
         ·exact hd
      ·split
       ·unfold QS.evictF
        split
        ·rfl
        ·split
         ·rfl
         ·split
          ·rfl
          ·split
           ·exact back_old q _
           ·exact back_old q _
       ·split
        ·rfl
        ·unfold QS.putF
         split
         ·rfl
         ·split
          ·exact hold_old q l
          ·rw [let_a, set_a]; exact hold_old q l
/-- what Aborts asks of a page -/
structure Ab (q : QS) (O : List (Option (List UInt8))) : Prop where
 V : Vi q
 N : ∀ f ∈ q.l, f.held = 0
 C : Cl q
 v : ∀ k : Nat, q.vw (k : Nat) = match (O[k]?).getD none with
  | some b => (b, 0)
  | none => ([], 3)
theorem Ab.start (q : QS) (h : 1 ≤ q.l.length) : Ab q.abortF q.a.old := by
 have hn : ∀ f ∈ q.abortF.l, f = Fr.nil := fun f hf => List.eq_of_mem_replicate hf
 refine ⟨⟨fun i j f h hf hh e h0 => ?_, fun f hf h0 hd => ?_, fun f hf h0 => ?_, fun f hf h0 => ?_, fun f hf h0 => ?_⟩, fun f hf => by rw [hn f hf]; rfl, fun f hf => by rw [hn f hf]; rfl, fun k => ?_⟩
 ·rw [hn f (List.mem_of_getElem? hf)] at h0
  exact absurd h0 (by decide)
 ·rw [hn f hf] at h0
  exact absurd h0 (by decide)
 ·rw [hn f hf] at h0
  exact absurd h0 (by decide)
 ·rw [hn f hf]; rfl
 ·rw [hn f hf] at h0
  exact absurd h0 (by decide)
 ·rw [vw_out (.inr (fun f hf => by
   rw [hn f hf]
   show (-1 : Int) ≠ _
   omega))]
  unfold St.readF St.at
  rw [if_pos (by omega), show ((k : Nat) : Int).toNat = k by omega]
  show (match (((oldS q.a.old)[k]?).getD none : Sl14) with | some (_, b) => (b, (0 : Int)) | none => ([], 3)) = _
  unfold oldS
  rw [List.getElem?_map]
  cases q.a.old[k]? with
  | none => rfl
  | some o => cases o <;> rfl
theorem Ab.get {q : QS} {n K : Nat} {O : List (Option (List UInt8))} (h : Ab q O) (H : Hq q n K) (p : Int) : Ab (q.getF p).1 O := by
 obtain ⟨_, _, h2, h3, h4⟩ := get_view H h.V h.N h.C.bk p (P := fun _ => True) trivial (fun _ _ _ _ => trivial)
 exact ⟨h2, h4, (get_cl H h.C p).2, fun k => by rw [h3]; exact h.v k⟩
theorem Ab.got {q : QS} {n K : Nat} {O : List (Option (List UInt8))} (h : Ab q O) (H : Hq q n K) (k : Nat) : (q.getF (k : Nat)).2 = match (O[k]?).getD none with
  | some b => (⟨b.toArray⟩, 0)
  | none => (⟨#[]⟩, 3) := by
 obtain ⟨h0, _⟩ := get_view H h.V h.N h.C.bk (k : Nat) (P := fun _ => True) trivial (fun _ _ _ _ => trivial)
 rw [h.v] at h0
 have e1 := congrArg Prod.fst h0
 have e2 := congrArg Prod.snd h0
 dsimp only at e1 e2
 cases ho : (O[k]?).getD none with
 | none =>
  rw [ho] at e1 e2
  refine Prod.ext ?_ e2
  show (q.getF (k : Nat)).2.1 = ⟨#[]⟩
  rw [← ba_eta (q.getF (k : Nat)).2.1, e1]
  rfl
 | some b =>
  rw [ho] at e1 e2
  refine Prod.ext ?_ e2
  show (q.getF (k : Nat)).2.1 = ⟨b.toArray⟩
  rw [← ba_eta (q.getF (k : Nat)).2.1, e1]
  rfl
end Go.Proofs.YtbelcgjbhpjnpaaGreat.Sh
