/- the document's pool plainly: what it gives is a page long. -/
import Derived.Test.YtbelcgjbhpjnpaaGreatQj
set_option linter.all false
set_option linter.unusedVariables false
set_option linter.unusedSimpArgs false
namespace Go.Proofs.YtbelcgjbhpjnpaaGreat.Sh
open Go.RowKit Pk Dk Pg
theorem map_set_px {α β : Type} (l : List α) (g : α → β) (k : Nat) {a b : α} (h : l[k]? = some b) (e : g a = g b) : (l.set k a).map g = l.map g := by
 rw [List.map_set]
 apply List.ext_getElem?
 intro i
 rw [List.getElem?_set]
 have hk := (List.getElem?_eq_some_iff.1 h).1
 split
 ·rename_i hi
  subst hi
  rw [if_pos (by simpa using hk), List.getElem?_map, h, e]
  rfl
 ·rfl
/-- page and payload, frame by frame -/
def px (f : Fr) : Int × ByteArray := (f.page, f.pay)
theorem spin_px : ∀ (m : Nat) (s : QS), s.hand < s.l.length → (s.spin m).1.l.map px = s.l.map px
 | 0, _, _ => rfl
 | m + 1, s, hs => by
  rw [spin_succ]
  have ht : s.turn.hand < s.turn.l.length := Nat.mod_lt _ (by show 0 < s.l.length; omega)
  split
  ·exact spin_px m s.turn ht
  ·split
   ·rw [spin_px m { s.turn with l := s.l.set s.hand { frD s.l s.hand with used := false } } (by show s.turn.hand < (s.l.set _ _).length; rw [List.length_set]; exact ht)]
    exact map_set_px s.l px s.hand (frD_get hs) rfl
   ·rfl
theorem victim_px (q : QS) (hl : q.hand < q.l.length) : q.victimF.1.l.map px = q.l.map px := by
 unfold QS.victimF
 split
 ·rfl
 ·exact spin_px _ q hl
theorem back_px (q : QS) (k : Nat) (hk : k < q.l.length) : (q.backF k).1.l.map px = q.l.map px := by
 unfold QS.backF
 split
 ·split
  ·exact map_set_px q.l px k (frD_get hk) rfl
  ·rfl
 ·rfl
/-- what a frame holds is a page long -/
def F32 (l : List Fr) : Prop := ∀ f ∈ l, 0 ≤ f.page → f.pay.size = 232
theorem F32.px {l l' : List Fr} (h : F32 l) (e : l'.map Sh.px = l.map Sh.px) : F32 l' := fun f hf h0 => by
 have hm : Sh.px f ∈ l.map Sh.px := by rw [← e]; exact List.mem_map_of_mem hf
 obtain ⟨g, hg, eg⟩ := List.mem_map.1 hm
 have e1 := congrArg Prod.fst eg
 have e2 := congrArg Prod.snd eg
 have e1 : g.page = f.page := e1
 have e2 : g.pay = f.pay := e2
 rw [← e2]
 exact h g hg (by omega)
theorem F32.set {l : List Fr} (h : F32 l) (k : Nat) {g : Fr} (hg : 0 ≤ g.page → g.pay.size = 232) : F32 (l.set k g) := fun f hf h0 => by
 rcases List.mem_or_eq_of_mem_set hf with hf | rfl
 ·exact h f hf h0
 ·exact hg h0
theorem Zc.len' {c : C} {n : Nat} {a : St} {K : Nat} (z : Zc c n a K) {l : Int} (h : (a.readF l).2 = 0) : (a.readF l).1.length = 232 := by
 have hr := z.read l
 rw [read_good z.g] at hr
 rw [← hr] at h ⊢
 exact read_len z.g h
section
variable {q : QS} {n K : Nat}
theorem hold_32 (H : Hq q n K) (h : F32 q.l) (p : Int) : F32 (q.holdF p).1.l ∧ ((q.holdF p).2.2 = 0 → (q.holdF p).2.1.size = 232) := by
 unfold QS.holdF
 rcases findF_le q.l p with e | ⟨k, f, e, hk, he, hp0⟩
 ·rw [e, if_neg (by omega)]
  by_cases hr : (q.a.readF p).2 ≠ 0
  ·rw [if_pos hr]
   exact ⟨h, fun h0 => absurd h0 hr⟩
  ·rw [if_neg hr]
   have hv := h.px (victim_px q H.lh)
   obtain ⟨v1, v3⟩ := H.victim
   by_cases h1 : q.victimF.2 < 0
   ·rw [if_pos h1]
    exact ⟨hv, fun h0 => absurd (show (12 : Int) = 0 from h0) (by omega)⟩
   ·rw [if_neg h1]
    rcases v3 with v3 | ⟨k, v3, hk⟩
    ·omega
    ·rw [v3, show ((k : Nat) : Int).toNat = k by omega]
     have hl : q.victimF.1.l.length = q.l.length := by
      have := congrArg List.length (victim_px q H.lh)
      simpa using this
     have hb := hv.px (back_px q.victimF.1 k (by omega))
     by_cases h2 : (q.victimF.1.backF k).2 ≠ 0
     ·rw [if_pos h2]
      exact ⟨hb, fun h0 => absurd h0 h2⟩
     ·rw [if_neg h2]
      obtain ⟨c, z⟩ := H.z
      have hz : (⟨(q.a.readF p).1.toArray⟩ : ByteArray).size = 232 := by
       show (q.a.readF p).1.toArray.size = 232
       rw [List.size_toArray]
       exact z.len' (by simpa using hr)
      exact ⟨hb.set k (fun _ => hz), fun _ => hz⟩
 ·rw [e, if_pos (by omega), show ((k : Nat) : Int).toNat = k by omega, frD_at hk]
  have hf := h f (List.mem_of_getElem? hk) (by omega)
  exact ⟨h.set k (fun _ => hf), fun _ => hf⟩
theorem let_32 (h : F32 q.l) (p : Int) : F32 (q.letF p).1.l := by
 unfold QS.letF
 cases hh : q.heldF p with
 | none => exact h
 | some kf => exact h.set kf.1 (h kf.2 (List.mem_of_getElem? (heldF_get hh).1))
theorem get_32 (H : Hq q n K) (h : F32 q.l) (p : Int) : F32 (q.getF p).1.l ∧ ((q.getF p).2.2 = 0 → (q.getF p).2.1.size = 232) := by
 obtain ⟨h1, h2⟩ := hold_32 H h p
 unfold QS.getF
 split
 ·rename_i h0
  exact ⟨h1, fun h => absurd h h0⟩
 ·rename_i h0
  exact ⟨let_32 h1 p, fun _ => h2 (by simpa using h0)⟩
theorem drop_32 (h : F32 q.l) (p : Int) : F32 (q.dropF p).1.l := by
 unfold QS.dropF
 split
 ·exact h
 ·split
  ·exact h
  ·split
   ·exact h.set _ (fun h0 => absurd h0 (by show ¬ (0 : Int) ≤ -1; omega))
   ·exact h
end
end Go.Proofs.YtbelcgjbhpjnpaaGreat.Sh
