/- chains, plainly: what was put is got. -/
import Derived.Test.YtbelcgjbhpjnpaaGreatXc
set_option linter.all false
set_option linter.unusedVariables false
set_option linter.unusedSimpArgs false
set_option maxRecDepth 100000
namespace Go.Proofs.YtbelcgjbhpjnpaaGreat.Sh
open Go.RowKit Pk Dk Pg
/-- a chain in a store: from page p on the pages L, with the bytes b -/
def Ch (a : St) : Int → List Int → List UInt8 → Prop
 | p, [], b => p = -1 ∧ b = []
 | p, q :: L, b => p = q ∧ ∃ nx pc b', a.readC q = (nx, pc, 0) ∧ b = pc ++ b' ∧ Ch a nx L b'
theorem readC_ok {a : St} {q nx : Int} {pc : List UInt8} (h : a.readC q = (nx, pc, 0)) : (a.readF q).2 = 0 := by
 unfold St.readC at h
 by_cases h0 : (a.readF q).2 = 0
 ·exact h0
 ·rw [if_pos h0, Prod.mk.injEq, Prod.mk.injEq] at h
  exact absurd h.2.2 h0
theorem readF_some {a : St} {q : Int} : (a.readF q).2 = 0 ↔ (a.at q).isSome = true := by
 unfold St.readF
 cases a.at q with
 | none => simp
 | some x => simp
theorem readC_congr {a b : St} {q : Int} (h : b.readF q = a.readF q) : b.readC q = a.readC q := by unfold St.readC; rw [h]
theorem Ch.some {a : St} : ∀ {L : List Int} {p : Int} {b : List UInt8}, Ch a p L b → ∀ q ∈ L, (a.at q).isSome = true
 | [], _, _, _ => by simp
 | q :: L, p, b, h => by
  obtain ⟨rfl, nx, pc, b', h1, h2, h3⟩ := h
  intro x hx
  rcases List.mem_cons.1 hx with rfl | hx
  ·exact readF_some.1 (readC_ok h1)
  ·exact h3.some x hx
theorem Ch.congr {a c : St} : ∀ {L : List Int} {p : Int} {b : List UInt8}, Ch a p L b → (∀ q ∈ L, c.readF q = a.readF q) → Ch c p L b
 | [], _, _, h, _ => h
 | q :: L, p, b, h, e => by
  obtain ⟨rfl, nx, pc, b', h1, h2, h3⟩ := h
  exact ⟨rfl, nx, pc, b', by rw [readC_congr (e p (List.mem_cons_self ..))]; exact h1, h2, h3.congr (fun x hx => e x (List.mem_cons_of_mem _ hx))⟩
theorem Ch.new {a : St} {L : List Int} {p : Int} {b : List UInt8} (h : Ch a p L b) (x : List UInt8) : Ch (a.newF x).1 p L b :=
 h.congr (fun q hq => read_new (readF_some.2 (h.some q hq)) x)
theorem Ch.neg {a : St} {L : List Int} {p : Int} {b : List UInt8} (h : Ch a p L b) : (p < 0 ↔ L = []) ∧ (L = [] → p = -1) := by
 cases L with
 | nil => obtain ⟨rfl, rfl⟩ := h; exact ⟨⟨fun _ => rfl, fun _ => by omega⟩, fun _ => rfl⟩
 | cons q L =>
  have := at_some (h.some q (List.mem_cons_self ..))
  obtain ⟨rfl, _⟩ := h
  exact ⟨⟨fun h => by omega, fun h => by cases h⟩, fun h => by cases h⟩
theorem Ch.walk {a : St} : ∀ {L : List Int} {p : Int} {b : List UInt8} (m : Nat) (l : List Int) (acc : List UInt8), Ch a p L b → L ≠ [] → L.length ≤ m → (acc ++ b).length ≤ 1024 → a.walkF m p l acc = (l ++ L, acc ++ b, 0)
 | [], _, _, _, _, _, _, h, _, _ => absurd rfl h
 | q :: L, p, b, 0, _, _, _, _, h, _ => by simp at h
 | q :: L, p, b, m + 1, l, acc, h, _, hm, hb => by
  obtain ⟨rfl, nx, pc, b', h1, rfl, h3⟩ := h
  unfold St.walkF
  rw [h1]
  dsimp only
  rw [if_neg (by omega), if_neg (by omega), if_neg (by simp at hb ⊢; omega)]
  by_cases hn : nx < 0
  ·have hL := h3.neg.1.1 hn
   subst hL
   obtain ⟨_, rfl⟩ := h3
   rw [if_pos hn, List.append_nil]
  ·have hL : L ≠ [] := fun e => hn (h3.neg.1.2 e)
   rw [if_neg hn, Ch.walk m (l ++ [p]) (acc ++ pc) h3 hL (by simpa using hm) (by simpa [List.append_assoc] using hb)]
   simp
theorem link_read (next : Nat) (v : List UInt8) (i : Nat) (hn : next < 60000) : (linkL v i ((next : Int) - 1)).length ≤ 232 ∧ at2 (padL (linkL v i ((next : Int) - 1)) 232) 0 = next ∧ at2 (padL (linkL v i ((next : Int) - 1)) 232) 2 = (pieceL v i).length ∧ ((padL (linkL v i ((next : Int) - 1)) 232).drop 4).take (pieceL v i).length = pieceL v i := by
 have hp : (pieceL v i).length ≤ 228 := by unfold pieceL; rw [List.length_take]; omega
 unfold linkL padL
 rw [show ((next : Int) - 1 + 1).toNat = next by omega]
 generalize pieceL v i = pc at *
 unfold twoL at2
 refine ⟨by simp; omega, ?_, ?_, ?_⟩
 ·simp
  omega
 ·simp
  omega
 ·simp
theorem newF_yes {a : St} {p : List UInt8} (hp : p.length ≤ 232) (hs : a.slot < 512) (hf : a.free ≠ 0) : a.newF p = ({ a with now := putS a.now a.slot (some (true, padL p 232)) }, ((a.slot : Nat) : Int), 0) := by
 unfold St.newF
 rw [if_neg (by omega), if_neg (by omega)]
theorem newF_no {a : St} {p : List UInt8} (hp : p.length ≤ 232) (hf : a.free = 0) : a.newF p = (a, 0, 11) := by
 unfold St.newF
 rw [if_neg (by omega), if_pos (.inr hf)]
theorem countP_putS {α : Type} (f : α → Bool) (t : List α) (l : Nat) (u : α) (hl : l ≤ t.length) (h0 : ∀ x, t[l]? = some x → f x = false) (hu : f u = true) : (putS t l u).countP f = t.countP f + 1 := by
 unfold putS
 by_cases h : l = t.length
 ·rw [if_pos h, List.countP_append]; simp [hu]
 ·rw [if_neg h, List.countP_set (by omega)]
  have := h0 t[l] (List.getElem?_eq_getElem (by omega))
  simp [this, hu]
theorem slot_get' {a : St} (x : Option (Bool × List UInt8)) (h : a.now[a.slot]? = some x) : x = none := by
 have := slot_none a
 unfold St.at at this
 rw [if_pos (by omega), show (((a.slot : Nat) : Int)).toNat = a.slot by omega, h] at this
 simpa using this
/-- every page is one that was written since -/
def AllFresh (a : St) : Prop := ∀ x, some x ∈ a.now → x.1 = true
theorem new_count {a : St} {p : List UInt8} (hp : p.length ≤ 232) (hs : a.slot < 512) (hf : a.free ≠ 0) (h : AllFresh a) :
  (a.newF p).1.fresh = a.fresh + 1 ∧ (a.newF p).1.free + 1 = a.free ∧ AllFresh (a.newF p).1 ∧ (a.newF p).1.now.length ≤ a.now.length + 1 ∧ (a.newF p).1.many = a.many ∧ (a.newF p).1.old = a.old := by
 have hfr : (a.newF p).1.fresh = a.fresh + 1 := by
  rw [newF_yes hp hs hf]
  exact countP_putS _ _ _ _ (slot_le a) (fun x hx => by rw [slot_get' x hx]; rfl) rfl
 refine ⟨hfr, ?_, ?_, ?_, by rw [newF_yes hp hs hf], by rw [newF_yes hp hs hf]⟩
 ·have e1 : (a.newF p).1.kept = a.kept := by rw [newF_yes hp hs hf]; rfl
  have e2 : (a.newF p).1.many = a.many := by rw [newF_yes hp hs hf]
  unfold St.free at hf ⊢
  rw [hfr, e1, e2]
  omega
 ·rw [newF_yes hp hs hf]
  intro x hx
  have hx : some x ∈ putS a.now a.slot (some (true, padL p 232)) := hx
  obtain ⟨i, hi⟩ := List.getElem?_of_mem hx
  rw [get_putT _ _ _ (slot_le a)] at hi
  split at hi
  ·injection hi with hi; injection hi with hi; rw [← hi]
  ·exact h x (List.mem_of_getElem? hi)
 ·rw [newF_yes hp hs hf]
  show (putS a.now a.slot _).length ≤ _
  unfold putS
  split <;> simp
theorem drop_count {a : St} {q : Int} (hq : (a.at q).isSome = true) (h : AllFresh a) : (a.dropF q).2 = 0 ∧ (a.dropF q).1.fresh + 1 = a.fresh ∧ AllFresh (a.dropF q).1 ∧ (a.dropF q).1.many = a.many ∧ (a.dropF q).1.old = a.old ∧ (a.dropF q).1.now.length = a.now.length ∧ ∀ x, x ≠ q → (a.dropF q).1.at x = a.at x := by
 obtain ⟨h0, hl⟩ := at_some hq
 have e : a.dropF q = ({ a with now := a.now.set q.toNat none }, 0) := by unfold St.dropF; rw [if_pos hq]
 rw [e]
 refine ⟨rfl, ?_, ?_, rfl, rfl, by simp, fun x hx => at_set hx h0 _⟩
 ·show (a.now.set q.toNat none).countP isFresh + 1 = a.now.countP isFresh
  rw [List.countP_set hl]
  have hsome : isFresh a.now[q.toNat] = true := by
   unfold St.at at hq
   rw [if_pos h0, List.getElem?_eq_getElem hl] at hq
   cases hx : a.now[q.toNat] with
   | none => rw [hx] at hq; simp at hq
   | some x =>
    show x.1 = true
    exact h x (by rw [← hx]; exact List.getElem_mem hl)
  have : 0 < a.now.countP isFresh := List.countP_pos_iff.2 ⟨_, List.getElem_mem hl, hsome⟩
  rw [if_pos hsome, if_neg (by simp [isFresh])]
  omega
 ·intro x hx
  have hx : some x ∈ a.now.set q.toNat none := hx
  rcases List.mem_or_eq_of_mem_set hx with hx | hx
  ·exact h x hx
  ·cases hx
end Go.Proofs.YtbelcgjbhpjnpaaGreat.Sh

/- chains, plainly: put, dropped; what has no room. -/
namespace Go.Proofs.YtbelcgjbhpjnpaaGreat.Sh
open Go.RowKit Pk Dk Pg
theorem piece_drop (v : List UInt8) (i : Nat) : pieceL v i ++ v.drop (228 * (i + 1)) = v.drop (228 * i) := by
 unfold pieceL
 rw [show 228 * (i + 1) = 228 * i + 228 by omega, ← List.drop_drop, List.take_append_drop]
/-- a page of a chain is made -/
theorem link_new {a : St} (next : Nat) (v : List UInt8) (i : Nat) (hn : next < 60000) (hs : a.slot < 512) (hf : a.free ≠ 0) {L : List Int} (h : Ch a ((next : Int) - 1) L (v.drop (228 * (i + 1)))) :
  (a.newF (linkL v i ((next : Int) - 1))).2 = (((a.slot : Nat) : Int), 0) ∧ Ch (a.newF (linkL v i ((next : Int) - 1))).1 (a.slot : Nat) (((a.slot : Nat) : Int) :: L) (v.drop (228 * i)) := by
 obtain ⟨l1, l2, l3, l4⟩ := link_read next v i hn
 have e := newF_yes l1 hs hf
 refine ⟨by rw [e], rfl, (next : Int) - 1, pieceL v i, v.drop (228 * (i + 1)), ?_, (piece_drop v i).symm, h.new _⟩
 have hr : (a.newF (linkL v i ((next : Int) - 1))).1.readF (a.slot : Nat) = (padL (linkL v i ((next : Int) - 1)) 232, 0) := by
  rw [e]
  unfold St.readF
  rw [at_put, if_pos rfl]
 have hp : (pieceL v i).length ≤ 228 := by unfold pieceL; rw [List.length_take]; omega
 unfold St.readC
 rw [hr]
 dsimp only
 rw [if_neg (by simp), l2, l3, if_neg (by omega), l4]
theorem putC_succ (v : List UInt8) (i : Nat) (a : St) (next : Int) (made : List Int) : St.putC v (i + 1) a next made = if (a.newF (linkL v i next)).2.2 ≠ 0 then ((a.newF (linkL v i next)).1.dropAll made, 0, (a.newF (linkL v i next)).2.2)
  else St.putC v i (a.newF (linkL v i next)).1 (a.newF (linkL v i next)).2.1 (made ++ [(a.newF (linkL v i next)).2.1]) := rfl
theorem put_good (v : List UInt8) : ∀ (i : Nat) (a : St) (next : Nat) (made L : List Int), AllFresh a → i ≤ a.free → a.now.length + i ≤ 512 → next ≤ 512 → Ch a ((next : Int) - 1) L (v.drop (228 * i)) → L.Nodup →
  ∃ a' p L', St.putC v i a ((next : Int) - 1) made = (a', p, 0) ∧ Ch a' p L' v ∧ L'.length = i + L.length ∧ L'.Nodup ∧ AllFresh a' ∧ a'.fresh = a.fresh + i ∧ a'.free + i = a.free ∧ a'.now.length ≤ a.now.length + i ∧ a'.many = a.many ∧ a'.old = a.old ∧
   (∀ q, (a.at q).isSome = true → a'.readF q = a.readF q ∧ (q ∈ L' → q ∈ L))
 | 0, a, next, made, L, hA, _, _, _, hc, hN => ⟨a, _, L, rfl, by simpa using hc, by simp, hN, hA, rfl, rfl, Nat.le_refl _, rfl, rfl, fun q _ => ⟨rfl, id⟩⟩
 | i + 1, a, next, made, L, hA, hf, hl, hn, hc, hN => by
  have hsl := slot_le a
  have hs : a.slot < 512 := by omega
  have hf0 : a.free ≠ 0 := by omega
  obtain ⟨e, hC⟩ := link_new next v i (by omega) hs hf0 hc
  obtain ⟨c1, c2, c3, c4, c5, c6⟩ := new_count (link_read next v i (by omega)).1 hs hf0 hA
  have hnl : ((a.slot : Nat) : Int) ∉ L := fun hm => by
   have := hc.some _ hm
   rw [slot_none] at this
   cases this
  obtain ⟨a', p, L', r1, r2, r3, r4, r5, r6, r7, r8, r9, r10, r11⟩ := put_good v i (a.newF (linkL v i ((next : Int) - 1))).1 (a.slot + 1) (made ++ [((a.slot : Nat) : Int)]) (((a.slot : Nat) : Int) :: L) c3 (by omega) (by omega) (by omega) (by rw [show ((a.slot + 1 : Nat) : Int) - 1 = (a.slot : Nat) by omega]; exact hC) (List.nodup_cons.2 ⟨hnl, hN⟩)
  rw [show ((a.slot + 1 : Nat) : Int) - 1 = (a.slot : Nat) by omega] at r1
  refine ⟨a', p, L', ?_, r2, by rw [r3, List.length_cons]; omega, r4, r5, by omega, by omega, by omega, r9.trans c5, r10.trans c6, fun q hq => ?_⟩
  ·rw [putC_succ, e, if_neg (by simp)]
   exact r1
  ·have h1 := read_new (readF_some.2 hq) (linkL v i ((next : Int) - 1))
   have h2 : (((a.newF (linkL v i ((next : Int) - 1))).1).at q).isSome = true := readF_some.1 (by rw [h1]; exact readF_some.2 hq)
   obtain ⟨h3, h4⟩ := r11 q h2
   refine ⟨h3.trans h1, fun hm => ?_⟩
   rcases List.mem_cons.1 (h4 hm) with rfl | h
   ·rw [slot_none] at hq; cases hq
   ·exact h
theorem dropAll_good : ∀ (l : List Int) (a : St), AllFresh a → l.Nodup → (∀ q ∈ l, (a.at q).isSome = true) → AllFresh (a.dropAll l) ∧ (a.dropAll l).fresh + l.length = a.fresh ∧ (a.dropAll l).many = a.many ∧ (a.dropAll l).old = a.old
 | [], a, hA, _, _ => ⟨hA, rfl, rfl, rfl⟩
 | p :: l, a, hA, hN, hs => by
  obtain ⟨d1, d2, d3, d4, d5, d6, d7⟩ := drop_count (hs p (List.mem_cons_self ..)) hA
  obtain ⟨n1, n2⟩ := List.nodup_cons.1 hN
  obtain ⟨e1, e2, e3, e4⟩ := dropAll_good l (a.dropF p).1 d3 n2 (fun q hq => by rw [d7 q (fun e => n1 (by rw [← e]; exact hq))]; exact hs q (List.mem_cons_of_mem _ hq))
  rw [St.dropAll_cons]
  exact ⟨e1, by rw [List.length_cons]; omega, e3.trans d4, e4.trans d5⟩
theorem dropL_good : ∀ (l : List Int) (a : St), AllFresh a → l.Nodup → (∀ q ∈ l, (a.at q).isSome = true) → ∃ a', a.dropL l = (a', 0) ∧ AllFresh a' ∧ a'.fresh + l.length = a.fresh ∧ a'.many = a.many ∧ a'.old = a.old ∧ a'.now.length = a.now.length ∧ ∀ x, x ∉ l → a'.at x = a.at x
 | [], a, hA, _, _ => ⟨a, rfl, hA, rfl, rfl, rfl, rfl, fun _ _ => rfl⟩
 | p :: l, a, hA, hN, hs => by
  obtain ⟨d1, d2, d3, d4, d5, d6, d7⟩ := drop_count (hs p (List.mem_cons_self ..)) hA
  obtain ⟨n1, n2⟩ := List.nodup_cons.1 hN
  obtain ⟨a', e1, e2, e3, e4, e5, e6, e7⟩ := dropL_good l (a.dropF p).1 d3 n2 (fun q hq => by rw [d7 q (fun e => n1 (by rw [← e]; exact hq))]; exact hs q (List.mem_cons_of_mem _ hq))
  refine ⟨a', ?_, e2, by rw [List.length_cons]; omega, e4.trans d4, e5.trans d5, e6.trans d6, fun x hx => ?_⟩
  ·unfold St.dropL
   rw [if_neg (by rw [d1]; simp)]
   exact e1
  ·rw [e7 x (fun h => hx (List.mem_cons_of_mem _ h)), d7 x (fun h => hx (by rw [h]; exact List.mem_cons_self ..))]
theorem put_full (v : List UInt8) : ∀ (i : Nat) (a : St) (next : Nat) (made : List Int), AllFresh a → a.free < i → a.now.length + i ≤ 512 → next ≤ 512 → made.Nodup → (∀ q ∈ made, (a.at q).isSome = true) →
  ∃ a', St.putC v i a ((next : Int) - 1) made = (a', 0, 11) ∧ AllFresh a' ∧ a'.fresh + made.length = a.fresh ∧ a'.many = a.many ∧ a'.old = a.old
 | 0, a, next, made, _, h, _, _, _, _ => by omega
 | i + 1, a, next, made, hA, hf, hl, hn, hN, hs => by
  have hsl := slot_le a
  have hll := (link_read next v i (by omega)).1
  by_cases hf0 : a.free = 0
  ·have e := newF_no hll hf0
   obtain ⟨d1, d2, d3, d4⟩ := dropAll_good made a hA hN hs
   refine ⟨a.dropAll made, ?_, d1, d2, d3, d4⟩
   rw [putC_succ, e, if_pos (by simp)]
  ·have hs5 : a.slot < 512 := by omega
   have e := newF_yes hll hs5 hf0
   obtain ⟨c1, c2, c3, c4, c5, c6⟩ := new_count hll hs5 hf0 hA
   have hnm : ((a.slot : Nat) : Int) ∉ made := fun hm => by
    have := hs _ hm
    rw [slot_none] at this
    cases this
   have e2 : (a.newF (linkL v i ((next : Int) - 1))).2 = (((a.slot : Nat) : Int), 0) := by rw [e]
   obtain ⟨a', r1, r2, r3, r4, r5⟩ := put_full v i (a.newF (linkL v i ((next : Int) - 1))).1 (a.slot + 1) (made ++ [((a.slot : Nat) : Int)]) c3 (by omega) (by omega) (by omega)
    (by rw [List.nodup_append]; exact ⟨hN, by simp, fun x hx y hy e => hnm (by rw [List.mem_singleton.1 hy] at e; rw [← e]; exact hx)⟩)
    (fun q hq => by
     rcases List.mem_append.1 hq with hq | hq
     ·exact readF_some.1 (by rw [read_new (readF_some.2 (hs q hq))]; exact readF_some.2 (hs q hq))
     ·rw [List.mem_singleton.1 hq, e, at_put, if_pos rfl]; rfl)
   rw [show ((a.slot + 1 : Nat) : Int) - 1 = (a.slot : Nat) by omega] at r1
   refine ⟨a', ?_, r2, by rw [List.length_append, List.length_singleton] at r3; omega, r4.trans c5, r5.trans c6⟩
   rw [putC_succ, e2, if_neg (by simp)]
   exact r1
theorem pages_length {a : St} (h : AllFresh a) : a.pages.length = a.fresh := by
 unfold St.pages St.fresh
 rw [pgsS_length _ _ (Nat.le_refl _), List.take_length]
 apply List.countP_congr
 intro x hx
 cases x with
 | none => simp [isFresh]
 | some y =>
  have := h y hx
  simp [isFresh]
  obtain ⟨y1, y2⟩ := y
  exact this
theorem free_of {a b : St} (h1 : b.many = a.many) (h2 : b.old = a.old) (h3 : b.fresh = a.fresh) : b.free = a.free := by
 unfold St.free St.kept
 rw [h1, h2, h3]
theorem need_drop {v : List UInt8} (h : v.length ≤ 1024) : v.drop (228 * (cneedF v.length).toNat) = [] := by
 rw [List.drop_eq_nil_iff]
 unfold cneedF
 omega
/-- a value put where there is room -/
theorem cput_good {a : St} {v : List UInt8} (hA : AllFresh a) (hv : v.length ≤ 1024) (hf : (cneedF v.length).toNat ≤ a.free) (hl : a.now.length ≤ 500) :
  ∃ a' p L, a.cputF v = (a', p, 0) ∧ Ch a' p L v ∧ L.length = (cneedF v.length).toNat ∧ L.Nodup ∧ AllFresh a' ∧ a'.fresh = a.fresh + L.length ∧ a'.free + L.length = a.free ∧ a'.now.length ≤ a.now.length + 5 ∧ a'.many = a.many ∧ a'.old = a.old ∧ (∀ q, (a.at q).isSome = true → a'.readF q = a.readF q ∧ q ∉ L) := by
 have hn : (cneedF v.length).toNat ≤ 5 := by unfold cneedF; omega
 obtain ⟨a', p, L, r1, r2, r3, r4, r5, r6, r7, r8, r9, r10, r11⟩ := put_good v (cneedF v.length).toNat a 0 [] [] hA hf (by omega) (by omega) ⟨by omega, need_drop hv⟩ List.nodup_nil
 refine ⟨a', p, L, ?_, r2, by simpa using r3, r4, r5, by rw [r3]; simpa using r6, by rw [r3]; simpa using r7, by omega, r9, r10, fun q hq => ⟨(r11 q hq).1, fun hm => by have := (r11 q hq).2 hm; simp at this⟩⟩
 unfold St.cputF
 rw [if_neg (by omega)]
 exact r1
theorem cput_full {a : St} {v : List UInt8} (hA : AllFresh a) (hv : v.length ≤ 1024) (hf : a.free < (cneedF v.length).toNat) (hl : a.now.length ≤ 500) :
  ∃ a', a.cputF v = (a', 0, 11) ∧ AllFresh a' ∧ a'.fresh = a.fresh ∧ a'.many = a.many ∧ a'.old = a.old := by
 have hn : (cneedF v.length).toNat ≤ 5 := by unfold cneedF; omega
 obtain ⟨a', r1, r2, r3, r4, r5⟩ := put_full v (cneedF v.length).toNat a 0 [] hA hf (by omega) (by omega) List.nodup_nil (by simp)
 refine ⟨a', ?_, r2, by simpa using r3, r4, r5⟩
 unfold St.cputF
 rw [if_neg (by omega)]
 exact r1
theorem cwalk_good {a : St} {p : Int} {L : List Int} {v : List UInt8} (h : Ch a p L v) (h1 : L.length = (cneedF v.length).toNat) (hv : v.length ≤ 1024) : a.cwalkF p = (L, v, 0) := by
 have hn : 1 ≤ (cneedF v.length).toNat ∧ (cneedF v.length).toNat ≤ 5 := by unfold cneedF; omega
 unfold St.cwalkF
 rw [h.walk 5 [] [] (fun e => by rw [e] at h1; simp at h1; omega) (by omega) (by simpa using hv)]
 simp
theorem cdrop_good {a : St} {p : Int} {L : List Int} {v : List UInt8} (h : Ch a p L v) (h1 : L.length = (cneedF v.length).toNat) (hv : v.length ≤ 1024) (hN : L.Nodup) (hA : AllFresh a) :
  ∃ a', a.cdropF p = (a', 0) ∧ AllFresh a' ∧ a'.fresh + L.length = a.fresh ∧ a'.many = a.many ∧ a'.old = a.old ∧ a'.now.length = a.now.length ∧ ∀ x, x ∉ L → a'.at x = a.at x := by
 unfold St.cdropF
 rw [cwalk_good h h1 hv, if_neg (by simp)]
 exact dropL_good L a hA hN h.some
end Go.Proofs.YtbelcgjbhpjnpaaGreat.Sh
