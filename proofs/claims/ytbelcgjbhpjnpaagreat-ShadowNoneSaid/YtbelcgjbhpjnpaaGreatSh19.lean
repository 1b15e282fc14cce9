/- pool by its contracts: Hold as one. -/
import Derived.Test.YtbelcgjbhpjnpaaGreatSh18
namespace Go.Proofs.YtbelcgjbhpjnpaaGreat.Sh
open Go.RowKit Pk Dk Pg
/-- Hold, where no frame is dirty -/
def PS.holdF (s : PS) (n : Nat) (p : Int) : PS × ByteArray × Int :=
  if 0 ≤ findF s.l p then
    ({ s with l := s.l.set (findF s.l p).toNat { frD s.l (findF s.l p).toNat with held := (frD s.l (findF s.l p).toNat).held + 1, used := true } }, (frD s.l (findF s.l p).toNat).pay, 0)
  else if (s.c.readF n p).2 ≠ 0 then (s, ⟨#[]⟩, (s.c.readF n p).2)
  else if s.victimF.2 < 0 then (s.victimF.1, ⟨#[]⟩, 12)
  else ({ s.victimF.1 with l := s.victimF.1.l.set s.victimF.2.toNat ⟨p, ⟨(s.c.readF n p).1.toArray⟩, 1, false, true⟩ }, ⟨(s.c.readF n p).1.toArray⟩, 0)
/-- nothing is dirty, and what is held is a small number -/
def CleanL (l : List Fr) : Prop := ∀ f ∈ l, f.dirty = false ∧ 0 ≤ f.held ∧ f.held ≤ 1000000
theorem CleanL.set {l : List Fr} (h : CleanL l) (k : Nat) {f : Fr} (hf : f.dirty = false ∧ 0 ≤ f.held ∧ f.held ≤ 1000000) : CleanL (l.set k f) := by
  intro g hg
  rcases List.mem_or_eq_of_mem_set hg with hg | rfl
  · exact h g hg
  · exact hf
theorem spin_ok (m : Nat) (s : PS) (hl : s.hand < s.l.length) (hc : CleanL s.l) : CleanL (s.spin m).1.l ∧ (s.spin m).1.l.length = s.l.length ∧ ((s.spin m).2 = -1 ∨ ∃ k : Nat, (s.spin m).2 = k ∧ k < s.l.length) := by
  induction m generalizing s with
  | zero => exact ⟨hc, rfl, .inl rfl⟩
  | succ m ih =>
    unfold PS.spin
    have hf := frD_get hl
    have hm := hc _ (List.mem_of_getElem? hf)
    have ht : (s.hand + 1) % s.l.length < s.l.length := Nat.mod_lt _ (by omega)
    split
    · exact ih s.turn ht hc
    · split
      · have := ih { s.turn with l := s.l.set s.hand { frD s.l s.hand with used := false } } (by rw [List.length_set]; exact ht) (hc.set _ hm)
        rw [List.length_set] at this
        exact this
      · exact ⟨hc, rfl, .inr ⟨s.hand, rfl, hl⟩⟩
theorem victimF_ok (s : PS) (hl : s.hand < s.l.length) (hc : CleanL s.l) : CleanL s.victimF.1.l ∧ s.victimF.1.l.length = s.l.length ∧ (s.victimF.2 = -1 ∨ ∃ k : Nat, s.victimF.2 = k ∧ k < s.l.length) := by
  unfold PS.victimF
  split
  · refine ⟨hc, rfl, ?_⟩
    rcases ixF_le (fun f => decide (f.page < 0)) s.l with e | ⟨k, f, e, hf, _⟩
    · exact .inl e
    · exact .inr ⟨k, e, (List.getElem?_eq_some_iff.1 hf).1⟩
  · exact spin_ok _ s hl hc
theorem hold_any {w : World} {y : Y} {n : Nat} {s : PS} (h : AtP w y n s) (p : Int) (hc : CleanL s.l) :
    Calls Tryz.prog 52 #[pp y.pb, .int .i64 p] w fun e w' => e = .returned (.tuple #[.string (s.holdF n p).2.1, .int .i64 (s.holdF n p).2.2]) ∧ AtP w' y n (s.holdF n p).1 ∧ Only y.fp w w' := by
  unfold PS.holdF
  rcases findF_le s.l p with e | ⟨k, f, e, hf, _, _⟩
  · rw [e, if_neg (by omega)]
    by_cases hr : (s.c.readF n p).2 = 0
    · rw [if_neg (by simpa using hr)]
      obtain ⟨v1, v2, v3⟩ := victimF_ok s h.lh hc
      rcases v3 with v3 | ⟨k, v3, hk⟩
      · rw [if_pos (by omega)]
        exact hold_full h p e hr (by omega)
      · rw [if_neg (by omega), v3, show ((k : Nat) : Int).toNat = k from by omega]
        have hf := frD_get (l := s.victimF.1.l) (k := k) (by omega)
        exact hold_new h p e hr k v3 hf (v1 _ (List.mem_of_getElem? hf)).1
    · rw [if_pos hr]
      exact (hold_bad h p e hr).mono fun e w' ⟨h1, h2⟩ => ⟨h1, h.below h2, .of_below h2⟩
  · have hd : frD s.l k = f := by unfold frD; rw [hf]; rfl
    rw [e, if_pos (by omega), show ((k : Nat) : Int).toNat = k from by omega, hd]
    exact hold_hit h p k e hf (by have := hc f (List.mem_of_getElem? hf); omega)
end Go.Proofs.YtbelcgjbhpjnpaaGreat.Sh
