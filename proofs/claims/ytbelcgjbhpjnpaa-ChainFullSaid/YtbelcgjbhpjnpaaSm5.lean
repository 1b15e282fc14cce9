/- chains, plainly: what was put is got. -/
import Derived.Test.YtbelcgjbhpjnpaaSc5
namespace Go.Proofs.Ytbelcgjbhpjnpaa.Sh
open Go.RowKit Pk Dk Pg
/-- a chain in a store: from page p on the pages L, with the bytes b -/
def Ch (a : St) : Int → List Int → List UInt8 → Prop
  | p, [], b => p = -1 ∧ b = []
  | p, q :: L, b => p = q ∧ ∃ nx pc b', a.readC q = (nx, pc, 0) ∧ b = pc ++ b' ∧ Ch a nx L b'
theorem readC_ok {a : St} {q nx : Int} {pc : List UInt8} (h : a.readC q = (nx, pc, 0)) : (a.readF q).2 = 0 := by
  unfold St.readC at h
  by_cases h0 : (a.readF q).2 = 0
  · exact h0
  · rw [if_pos h0, Prod.mk.injEq, Prod.mk.injEq] at h
    exact absurd h.2.2 h0
theorem readF_some {a : St} {q : Int} : (a.readF q).2 = 0 ↔ (a.at q).isSome = true := by
  unfold St.readF
  cases a.at q with
  | none => simp
  | some x => simp
theorem readC_congr {a b : St} {q : Int} (h : b.readF q = a.readF q) : b.readC q = a.readC q := by unfold St.readC; rw [h]
theorem Ch.some {a : St} : ∀ {L : List Int} {p : Int} {b : List UInt8}, Ch a p L b → ∀ q ∈ L, (a.at q).isSome = true
  | [], _, _, _ => by simp
  | q :: L, p, b, h => by
    obtain ⟨rfl, nx, pc, b', h1, h2, h3⟩ := h
    intro x hx
    rcases List.mem_cons.1 hx with rfl | hx
    · exact readF_some.1 (readC_ok h1)
    · exact h3.some x hx
theorem Ch.congr {a c : St} : ∀ {L : List Int} {p : Int} {b : List UInt8}, Ch a p L b → (∀ q ∈ L, c.readF q = a.readF q) → Ch c p L b
  | [], _, _, h, _ => h
  | q :: L, p, b, h, e => by
    obtain ⟨rfl, nx, pc, b', h1, h2, h3⟩ := h
    exact ⟨rfl, nx, pc, b', by rw [readC_congr (e p (List.mem_cons_self ..))]; exact h1, h2, h3.congr (fun x hx => e x (List.mem_cons_of_mem _ hx))⟩
theorem Ch.new {a : St} {L : List Int} {p : Int} {b : List UInt8} (h : Ch a p L b) (x : List UInt8) : Ch (a.newF x).1 p L b :=
  h.congr (fun q hq => read_new (readF_some.2 (h.some q hq)) x)
theorem Ch.neg {a : St} {L : List Int} {p : Int} {b : List UInt8} (h : Ch a p L b) : (p < 0 ↔ L = []) ∧ (L = [] → p = -1) := by
  cases L with
  | nil => obtain ⟨rfl, rfl⟩ := h; exact ⟨⟨fun _ => rfl, fun _ => by omega⟩, fun _ => rfl⟩
  | cons q L =>
    have := at_some (h.some q (List.mem_cons_self ..))
    obtain ⟨rfl, _⟩ := h
    exact ⟨⟨fun h => by omega, fun h => by cases h⟩, fun h => by cases h⟩
theorem Ch.walk {a : St} : ∀ {L : List Int} {p : Int} {b : List UInt8} (m : Nat) (l : List Int) (acc : List UInt8), Ch a p L b → L ≠ [] → L.length ≤ m → (acc ++ b).length ≤ 1024 → a.walkF m p l acc = (l ++ L, acc ++ b, 0)
  | [], _, _, _, _, _, _, h, _, _ => absurd rfl h
  | q :: L, p, b, 0, _, _, _, _, h, _ => by simp at h
  | q :: L, p, b, m + 1, l, acc, h, _, hm, hb => by
    obtain ⟨rfl, nx, pc, b', h1, rfl, h3⟩ := h
    unfold St.walkF
    rw [h1]
    dsimp only
    rw [if_neg (by omega), if_neg (by omega), if_neg (by simp at hb ⊢; omega)]
    by_cases hn : nx < 0
    · have hL := h3.neg.1.1 hn
      subst hL
      obtain ⟨_, rfl⟩ := h3
      rw [if_pos hn, List.append_nil]
    · have hL : L ≠ [] := fun e => hn (h3.neg.1.2 e)
      rw [if_neg hn, Ch.walk m (l ++ [p]) (acc ++ pc) h3 hL (by simpa using hm) (by simpa [List.append_assoc] using hb)]
      simp
theorem link_read (next : Nat) (v : List UInt8) (i : Nat) (hn : next < 60000) : (linkL v i ((next : Int) - 1)).length ≤ 232 ∧ at2 (padL (linkL v i ((next : Int) - 1)) 232) 0 = next ∧ at2 (padL (linkL v i ((next : Int) - 1)) 232) 2 = (pieceL v i).length ∧ ((padL (linkL v i ((next : Int) - 1)) 232).drop 4).take (pieceL v i).length = pieceL v i := by
  have hp : (pieceL v i).length ≤ 228 := by unfold pieceL; rw [List.length_take]; omega
  unfold linkL padL
  rw [show ((next : Int) - 1 + 1).toNat = next by omega]
  generalize pieceL v i = pc at *
  unfold twoL at2
  refine ⟨by simp; omega, ?_, ?_, ?_⟩
  · simp
    omega
  · simp
    omega
  · simp
theorem newF_yes {a : St} {p : List UInt8} (hp : p.length ≤ 232) (hs : a.slot < 512) (hf : a.free ≠ 0) : a.newF p = ({ a with now := putS a.now a.slot (some (true, padL p 232)) }, ((a.slot : Nat) : Int), 0) := by
  unfold St.newF
  rw [if_neg (by omega), if_neg (by omega)]
theorem newF_no {a : St} {p : List UInt8} (hp : p.length ≤ 232) (hf : a.free = 0) : a.newF p = (a, 0, 11) := by
  unfold St.newF
  rw [if_neg (by omega), if_pos (.inr hf)]
theorem countP_putS {α : Type} (f : α → Bool) (t : List α) (l : Nat) (u : α) (hl : l ≤ t.length) (h0 : ∀ x, t[l]? = some x → f x = false) (hu : f u = true) : (putS t l u).countP f = t.countP f + 1 := by
  unfold putS
  by_cases h : l = t.length
  · rw [if_pos h, List.countP_append]; simp [hu]
  · rw [if_neg h, List.countP_set (by omega)]
    have := h0 t[l] (List.getElem?_eq_getElem (by omega))
    simp [this, hu]
theorem slot_get' {a : St} (x : Option (Bool × List UInt8)) (h : a.now[a.slot]? = some x) : x = none := by
  have := slot_none a
  unfold St.at at this
  rw [if_pos (by omega), show (((a.slot : Nat) : Int)).toNat = a.slot by omega, h] at this
  simpa using this
/-- every page is one that was written since -/
def AllFresh (a : St) : Prop := ∀ x, some x ∈ a.now → x.1 = true
theorem new_count {a : St} {p : List UInt8} (hp : p.length ≤ 232) (hs : a.slot < 512) (hf : a.free ≠ 0) (h : AllFresh a) :
    (a.newF p).1.fresh = a.fresh + 1 ∧ (a.newF p).1.free + 1 = a.free ∧ AllFresh (a.newF p).1 ∧ (a.newF p).1.now.length ≤ a.now.length + 1 ∧ (a.newF p).1.many = a.many ∧ (a.newF p).1.old = a.old := by
  have hfr : (a.newF p).1.fresh = a.fresh + 1 := by
    rw [newF_yes hp hs hf]
    exact countP_putS _ _ _ _ (slot_le a) (fun x hx => by rw [slot_get' x hx]; rfl) rfl
  refine ⟨hfr, ?_, ?_, ?_, by rw [newF_yes hp hs hf], by rw [newF_yes hp hs hf]⟩
  · have e1 : (a.newF p).1.kept = a.kept := by rw [newF_yes hp hs hf]; rfl
    have e2 : (a.newF p).1.many = a.many := by rw [newF_yes hp hs hf]
    unfold St.free at hf ⊢
    rw [hfr, e1, e2]
    omega
  · rw [newF_yes hp hs hf]
    intro x hx
    have hx : some x ∈ putS a.now a.slot (some (true, padL p 232)) := hx
    obtain ⟨i, hi⟩ := List.getElem?_of_mem hx
    rw [get_putT _ _ _ (slot_le a)] at hi
    split at hi
    · injection hi with hi; injection hi with hi; rw [← hi]
    · exact h x (List.mem_of_getElem? hi)
  · rw [newF_yes hp hs hf]
    show (putS a.now a.slot _).length ≤ _
    unfold putS
    split <;> simp
theorem drop_count {a : St} {q : Int} (hq : (a.at q).isSome = true) (h : AllFresh a) : (a.dropF q).2 = 0 ∧ (a.dropF q).1.fresh + 1 = a.fresh ∧ AllFresh (a.dropF q).1 ∧ (a.dropF q).1.many = a.many ∧ (a.dropF q).1.old = a.old ∧ (a.dropF q).1.now.length = a.now.length ∧ ∀ x, x ≠ q → (a.dropF q).1.at x = a.at x := by
  obtain ⟨h0, hl⟩ := at_some hq
  have e : a.dropF q = ({ a with now := a.now.set q.toNat none }, 0) := by unfold St.dropF; rw [if_pos hq]
  rw [e]
  refine ⟨rfl, ?_, ?_, rfl, rfl, by simp, fun x hx => at_set hx h0 _⟩
  · show (a.now.set q.toNat none).countP isFresh + 1 = a.now.countP isFresh
    rw [List.countP_set hl]
    have hsome : isFresh a.now[q.toNat] = true := by
      unfold St.at at hq
      rw [if_pos h0, List.getElem?_eq_getElem hl] at hq
      cases hx : a.now[q.toNat] with
      | none => rw [hx] at hq; simp at hq
      | some x =>
        show x.1 = true
        exact h x (by rw [← hx]; exact List.getElem_mem hl)
    have : 0 < a.now.countP isFresh := List.countP_pos_iff.2 ⟨_, List.getElem_mem hl, hsome⟩
    rw [if_pos hsome, if_neg (by simp [isFresh])]
    omega
  · intro x hx
    have hx : some x ∈ a.now.set q.toNat none := hx
    rcases List.mem_or_eq_of_mem_set hx with hx | hx
    · exact h x hx
    · cases hx
end Go.Proofs.Ytbelcgjbhpjnpaa.Sh
