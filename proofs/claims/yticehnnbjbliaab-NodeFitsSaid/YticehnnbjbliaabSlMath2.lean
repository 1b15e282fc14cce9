/- payloads with records: what is laid. -/
import Derived.Test.YticehnnbjbliaabSlMath
namespace Go.Proofs.Yticehnnbjbliaab.Sl
open Go.RowKit

def lay (F : List UInt8) (o : Nat) (c : List UInt8) : List UInt8 := F.take o ++ c ++ F.drop (o + c.length)
theorem lay_length {F : List UInt8} {o : Nat} {c : List UInt8} (h : o + c.length ≤ F.length) : (lay F o c).length = F.length := by
  simp [lay]; omega
theorem bvs_lay (F : List UInt8) (o : Nat) (c : List UInt8) : putAt (bvs F) o (bvs c) = bvs (lay F o c) := by
  simp [putAt, lay, bvs]
theorem lay_get {F : List UInt8} {o : Nat} {c : List UInt8} (h : o + c.length ≤ F.length) (j : Nat) : (lay F o c)[j]? = if o ≤ j ∧ j < o + c.length then c[j - o]? else F[j]? := by
  unfold lay
  by_cases h1 : j < o
  · rw [if_neg (by omega), List.append_assoc, List.getElem?_append_left (by simp; omega), List.getElem?_take_of_lt h1]
  · have e : (F.take o).length = o := by simp; omega
    by_cases h2 : j < o + c.length
    · rw [if_pos ⟨by omega, h2⟩, List.append_assoc, List.getElem?_append_right (by omega), e, List.getElem?_append_left (by omega)]
    · rw [if_neg (by omega), List.getElem?_append_right (by simp; omega), List.getElem?_drop]
      congr 1
      simp; omega
def put2 (b : List UInt8) (k n : Nat) : List UInt8 := (b.set k (UInt8.ofNat (n / 256))).set (k + 1) (UInt8.ofNat n)
theorem put2_length (b : List UInt8) (k n : Nat) : (put2 b k n).length = b.length := by simp [put2]
theorem put2_far (b : List UInt8) (k n j : Nat) (h : j < k ∨ k + 1 < j) : (put2 b k n)[j]? = b[j]? := by
  unfold put2
  rw [List.getElem?_set_ne (by omega), List.getElem?_set_ne (by omega)]
theorem at2_eq {b c : List UInt8} {k : Nat} (h0 : b[k]? = c[k]?) (h1 : b[k + 1]? = c[k + 1]?) : at2 b k = at2 c k := by
  simp only [at2, List.getD, h0, h1]
theorem at2_put2_far (b : List UInt8) (k n j : Nat) (h : j + 1 < k ∨ k + 1 < j) : at2 (put2 b k n) j = at2 b j :=
  at2_eq (put2_far b k n j (by omega)) (put2_far b k n (j + 1) (by omega))
theorem at2_put2 (b : List UInt8) (k n : Nat) (h : k + 1 < b.length) (hn : n < 65536) : at2 (put2 b k n) k = n := by
  have e0 : (put2 b k n)[k]? = some (UInt8.ofNat (n / 256)) := by
    unfold put2
    rw [List.getElem?_set_ne (by omega), List.getElem?_set_self (by omega)]
  have e1 : (put2 b k n)[k + 1]? = some (UInt8.ofNat n) := by
    unfold put2
    rw [List.getElem?_set_self (by simpa using h)]
  simp only [at2, List.getD, e0, e1, Option.getD_some, UInt8.toNat_ofNat']
  omega
/-- with, slot by slot -/
def withTo (b : List UInt8) (l : List Slot) (heap : Nat) : Nat → List UInt8
  | 0 => put2 (put2 b 0 l.length) 2 heap
  | i + 1 => put2 (put2 (withTo b l heap i) (4 + 4 * i) (l.getD i (0, 0)).1) (6 + 4 * i) (l.getD i (0, 0)).2
def withF (b : List UInt8) (l : List Slot) (heap : Nat) : List UInt8 := withTo b l heap l.length
theorem withTo_length (b : List UInt8) (l : List Slot) (heap : Nat) : ∀ i, (withTo b l heap i).length = b.length
  | 0 => by simp [withTo, put2_length]
  | i + 1 => by rw [withTo, put2_length, put2_length]; exact withTo_length b l heap i
theorem withTo_far (b : List UInt8) (l : List Slot) (heap : Nat) (j : Nat) : ∀ i, 4 + 4 * i ≤ j → (withTo b l heap i)[j]? = b[j]?
  | 0, h => by rw [withTo, put2_far _ _ _ _ (by omega), put2_far _ _ _ _ (by omega)]
  | i + 1, h => by rw [withTo, put2_far _ _ _ _ (by omega), put2_far _ _ _ _ (by omega)]; exact withTo_far b l heap j i (by omega)
theorem withTo_at (b : List UInt8) (l : List Slot) (heap : Nat) (hb : b.length = 232) (hh : heap < 65536) (hl : l.length < 65536) (hx : ∀ x ∈ l, x.1 < 65536 ∧ x.2 < 65536) :
    ∀ i, i ≤ l.length → 4 + 4 * i ≤ 232 → at2 (withTo b l heap i) 0 = l.length ∧ at2 (withTo b l heap i) 2 = heap ∧ ∀ k, k < i → slot (withTo b l heap i) k = l.getD k (0, 0)
  | 0, _, _ => by
    rw [withTo]
    refine ⟨?_, ?_, fun k hk => absurd hk (by omega)⟩
    · rw [at2_put2_far _ _ _ _ (by omega), at2_put2 _ _ _ (by omega) hl]
    · rw [at2_put2 _ _ _ (by rw [put2_length]; omega) hh]
  | i + 1, hi, h4 => by
    obtain ⟨h0, h2, hs⟩ := withTo_at b l heap hb hh hl hx i (by omega) (by omega)
    have hlen := withTo_length b l heap i
    rw [withTo]
    refine ⟨?_, ?_, fun k hk => ?_⟩
    · rw [at2_put2_far _ _ _ _ (by omega), at2_put2_far _ _ _ _ (by omega)]; exact h0
    · rw [at2_put2_far _ _ _ _ (by omega), at2_put2_far _ _ _ _ (by omega)]; exact h2
    · unfold slot
      by_cases e : k = i
      · subst e
        have hm : l.getD k (0, 0) ∈ l := by
          rw [List.getD, List.getElem?_eq_getElem (by omega)]; exact List.getElem_mem _
        have := hx _ hm
        rw [at2_put2_far _ _ _ _ (by omega), at2_put2 _ _ _ (by omega) this.1, at2_put2 _ _ _ (by rw [put2_length]; omega) this.2]
      · rw [at2_put2_far _ _ _ _ (by omega), at2_put2_far _ _ _ _ (by omega), at2_put2_far _ _ _ _ (by omega), at2_put2_far _ _ _ _ (by omega)]
        exact hs k (by omega)
section
variable {b : List UInt8} {l : List Slot} {heap : Nat}
/-- slots and a heap that may be laid -/
structure Laid (b : List UInt8) (l : List Slot) (heap : Nat) : Prop where
  len : b.length = 232
  hh : heap ≤ 232
  head : 4 + 4 * l.length ≤ heap
  fit : Fit heap l
theorem Laid.small (h : Laid b l heap) : ∀ x ∈ l, x.1 < 65536 ∧ x.2 < 65536 := fun x hx => by
  have := (h.fit.lies x hx).2
  omega
theorem Laid.n0 (h : Laid b l heap) : at2 (withF b l heap) 0 = l.length := (withTo_at b l heap h.len (by have := h.hh; omega) (by have := h.head; have := h.hh; omega) h.small l.length (Nat.le_refl _) (by have := h.head; have := h.hh; omega)).1
theorem Laid.n2 (h : Laid b l heap) : at2 (withF b l heap) 2 = heap := (withTo_at b l heap h.len (by have := h.hh; omega) (by have := h.head; have := h.hh; omega) h.small l.length (Nat.le_refl _) (by have := h.head; have := h.hh; omega)).2.1
theorem Laid.sl (h : Laid b l heap) : slots (withF b l heap) = l := by
  have hs := (withTo_at b l heap h.len (by have := h.hh; omega) (by have := h.head; have := h.hh; omega) h.small l.length (Nat.le_refl _) (by have := h.head; have := h.hh; omega)).2.2
  apply List.ext_getElem
  · rw [slots_length, h.n0]
  · intro i h1 h2
    have : (slots (withF b l heap))[i] = slot (withF b l heap) i := by simp [slots]
    rw [this, show slot (withF b l heap) i = l.getD i (0, 0) from hs i h2]
    simp [List.getD, List.getElem?_eq_getElem h2]
theorem Laid.length (h : Laid b l heap) : (withF b l heap).length = 232 := (withTo_length b l heap l.length).trans h.len
theorem Laid.sound (h : Laid b l heap) : Sound (withF b l heap) :=
  ⟨h.length, by rw [h.n2]; exact h.hh, by rw [h.n2, h.n0]; exact h.head, by rw [h.n2, h.sl]; exact h.fit⟩
theorem Laid.rc (h : Laid b l heap) : ∀ x ∈ l, rec1 (withF b l heap) x = rec1 b x := by
  intro x hx
  have h1 := (h.fit.lies x hx).1
  unfold rec1
  congr 1
  apply List.ext_getElem?
  intro j
  rw [List.getElem?_drop, List.getElem?_drop]
  exact withTo_far b l heap _ _ (by have := h.head; omega)
theorem Laid.rcs (h : Laid b l heap) : recs (withF b l heap) = l.map (rec1 b) := by
  unfold recs
  rw [h.sl]
  exact List.map_congr_left h.rc
theorem rec1_lay {F : List UInt8} {o : Nat} {c : List UInt8} (h : o + c.length ≤ F.length) (x : Slot) (hx : x.1 + x.2 ≤ o ∨ o + c.length ≤ x.1) : rec1 (lay F o c) x = rec1 F x := by
  unfold rec1
  apply List.ext_getElem?
  intro j
  by_cases hj : j < x.2
  · rw [List.getElem?_take_of_lt hj, List.getElem?_take_of_lt hj, List.getElem?_drop, List.getElem?_drop, lay_get h, if_neg (by omega)]
  · rw [List.getElem?_eq_none (by simp; omega), List.getElem?_eq_none (by simp; omega)]
theorem rec1_self {F : List UInt8} {o : Nat} {c : List UInt8} (h : o + c.length ≤ F.length) : rec1 (lay F o c) (o, c.length) = c := by
  unfold rec1
  apply List.ext_getElem?
  intro j
  by_cases hj : j < c.length
  · rw [List.getElem?_take_of_lt hj, List.getElem?_drop, lay_get h, if_pos ⟨by omega, by omega⟩]
    congr 1; omega
  · rw [List.getElem?_eq_none (by simp; omega), List.getElem?_eq_none (by omega)]
end

/-! pushed together -/
structure Comp where
  out : List UInt8
  to : List Slot
  heap : Nat
def comp0 : Comp := ⟨List.replicate 232 0, [], 232⟩
def Comp.add (c : Comp) (r : List UInt8) : Comp := ⟨lay c.out (c.heap - r.length) r, c.to ++ [(c.heap - r.length, r.length)], c.heap - r.length⟩
def compF (l : List (List UInt8)) : Comp := l.foldl Comp.add comp0
structure Comp.Ok (c : Comp) (l : List (List UInt8)) : Prop where
  len : c.out.length = 232
  heap : c.heap + (l.map List.length).sum = 232
  fit : Fit c.heap c.to
  recs : c.to.map (rec1 c.out) = l
theorem comp0_ok : comp0.Ok [] := ⟨List.length_replicate, rfl, Fit.nil _, rfl⟩
theorem Fit.mono {heap heap' : Nat} {l : List Slot} (h : Fit heap l) (hh : heap' ≤ heap) : Fit heap' l := ⟨fun x hx => ⟨Nat.le_trans hh (h.lies x hx).1, (h.lies x hx).2⟩, h.apart⟩
theorem Comp.Ok.add {c : Comp} {l : List (List UInt8)} (h : c.Ok l) (r : List UInt8) (hr : r.length ≤ c.heap) : (c.add r).Ok (l ++ [r]) := by
  have h1 := h.heap
  have h2 := h.len
  refine ⟨by show (lay _ _ _).length = 232; rw [lay_length (by omega)]; exact h.len, by show c.heap - r.length + _ = 232; simp; omega, ?_, ?_⟩
  · show Fit (c.heap - r.length) (c.to ++ [(c.heap - r.length, r.length)])
    rw [Fit.snoc]
    refine ⟨h.fit.mono (Nat.sub_le _ _), ⟨Nat.le_refl _, by show c.heap - r.length + r.length ≤ 232; omega⟩, fun y hy => ?_⟩
    have := (h.fit.lies y hy).1
    rw [apart_iff]
    exact .inr (.inr (.inl (by show c.heap - r.length + r.length ≤ y.1; omega)))
  · show (c.to ++ [(c.heap - r.length, r.length)]).map (rec1 (lay c.out (c.heap - r.length) r)) = l ++ [r]
    rw [List.map_append, ← h.recs]
    congr 1
    · apply List.map_congr_left
      intro y hy
      have := (h.fit.lies y hy).1
      exact rec1_lay (by omega) y (.inr (by omega))
    · simp only [List.map_cons, List.map_nil]
      rw [rec1_self (by omega)]
theorem compF_ok (l : List (List UInt8)) (h : (l.map List.length).sum ≤ 232) : (compF l).Ok l := by
  have key : ∀ (l m : List (List UInt8)) (c : Comp), c.Ok m → ((m ++ l).map List.length).sum ≤ 232 → (l.foldl Comp.add c).Ok (m ++ l) := by
    intro l
    induction l with
    | nil => intro m c h _; simpa using h
    | cons r l ih =>
      intro m c h hs
      have h1 := h.heap
      have := ih (m ++ [r]) (c.add r) (h.add r (by simp at hs h1; omega)) (by simpa using hs)
      simpa using this
  have := key l [] comp0 comp0_ok (by simpa using h)
  rw [List.nil_append] at this
  exact this
def compactF (b : List UInt8) : List UInt8 := withF (compF (recs b)).out (compF (recs b)).to (compF (recs b)).heap
theorem rec1_length {b : List UInt8} {x : Slot} (h : x.1 + x.2 ≤ b.length) : (rec1 b x).length = x.2 := by
  simp [rec1]; omega
theorem Sound.lens {b : List UInt8} (h : Sound b) : ((recs b).map List.length) = (slots b).map Prod.snd := by
  unfold recs
  rw [List.map_map]
  apply List.map_congr_left
  intro x hx
  exact rec1_length (by rw [h.len]; exact (h.fit.lies x hx).2)
theorem Sound.sum {b : List UInt8} (h : Sound b) : ((recs b).map List.length).sum ≤ 232 - at2 b 2 := by
  rw [h.lens]; exact lenSum_le _ _ h.fit h.heap
theorem Comp.Ok.to_len {c : Comp} {l : List (List UInt8)} (h : c.Ok l) : c.to.length = l.length := by rw [← h.recs, List.length_map]
theorem recs_length (b : List UInt8) : (recs b).length = at2 b 0 := by simp [recs, slots_length]
theorem Sound.comp {b : List UInt8} (h : Sound b) : Laid (compF (recs b)).out (compF (recs b)).to (compF (recs b)).heap := by
  have hs := h.sum
  have hh := h.heap
  have h4 := h.head
  have hc := compF_ok (recs b) (by omega)
  have h1 := hc.heap
  have h2 := hc.to_len
  rw [recs_length] at h2
  exact ⟨hc.len, by omega, by omega, hc.fit⟩
theorem Sound.compact {b : List UInt8} (h : Sound b) : Sound (compactF b) ∧ recs (compactF b) = recs b ∧ at2 (compactF b) 2 + ((recs b).map List.length).sum = 232 ∧ slots (compactF b) = (compF (recs b)).to := by
  have hs := h.sum
  have hh := h.heap
  have hc := compF_ok (recs b) (by omega)
  have L := h.comp
  exact ⟨L.sound, L.rcs.trans hc.recs, by unfold compactF; rw [L.n2]; exact hc.heap, L.sl⟩
/-! the room -/
theorem roomF_eq {b : List UInt8} (h : Sound b) : roomF b = 228 - 4 * (at2 b 0 : Int) - (((recs b).map List.length).sum : Nat) := by
  rw [h.lens]
  have e : ∀ l : List Slot, (l.map fun x => 4 + x.2).sum = 4 * l.length + (l.map Prod.snd).sum := by
    intro l
    induction l with
    | nil => rfl
    | cons x l ih => simp only [List.map_cons, List.sum_cons, ih, List.length_cons]; omega
  unfold roomF
  rw [e, slots_length]
  omega
def roomR (l : List (List UInt8)) : Int := 228 - ((l.map fun r => 4 + r.length).sum : Nat)
theorem room_eq {b : List UInt8} (h : Sound b) : roomF b = roomR (recs b) := by
  rw [roomF_eq h]
  have e : ∀ l : List (List UInt8), (l.map fun r => 4 + r.length).sum = 4 * l.length + (l.map List.length).sum := by
    intro l
    induction l with
    | nil => rfl
    | cons x l ih => simp only [List.map_cons, List.sum_cons, ih, List.length_cons]; omega
  unfold roomR
  rw [e, recs_length]
  omega
/-! a record put in -/
/-- the payload that a record is put into: pushed together, if there is no room else -/
def baseF (b r : List UInt8) : List UInt8 := if 4 + 4 * (at2 b 0 + 1) + r.length > at2 b 2 then compactF b else b
def insF (b : List UInt8) (i : Nat) (r : List UInt8) : List UInt8 :=
  withF (lay (baseF b r) (at2 (baseF b r) 2 - r.length) r) ((slots (baseF b r)).take i ++ (at2 (baseF b r) 2 - r.length, r.length) :: (slots (baseF b r)).drop i) (at2 (baseF b r) 2 - r.length)
theorem Sound.base {b : List UInt8} (h : Sound b) (r : List UInt8) (hr : (r.length : Int) ≤ roomF b - 4) : Sound (baseF b r) ∧ recs (baseF b r) = recs b ∧ at2 (baseF b r) 0 = at2 b 0 ∧ 4 + 4 * (at2 b 0 + 1) + r.length ≤ at2 (baseF b r) 2 := by
  unfold baseF
  split
  · obtain ⟨h1, h2, h3, _⟩ := h.compact
    have e0 : at2 (compactF b) 0 = at2 b 0 := by rw [← recs_length, ← recs_length, h2]
    rw [roomF_eq h] at hr
    exact ⟨h1, h2, e0, by omega⟩
  · exact ⟨h, rfl, rfl, by omega⟩
theorem Laid.insert {b : List UInt8} (h : Sound b) (i : Nat) (r : List UInt8) (hr : 4 + 4 * (at2 b 0 + 1) + r.length ≤ at2 b 2) (hi : i ≤ at2 b 0) :
    Laid (lay b (at2 b 2 - r.length) r) ((slots b).take i ++ (at2 b 2 - r.length, r.length) :: (slots b).drop i) (at2 b 2 - r.length) := by
  have h1 := h.heap
  have h2 := h.len
  have hl := slots_length b
  refine ⟨by rw [lay_length (by omega)]; exact h2, by omega, by simp [hl]; omega, ?_, ?_⟩
  · intro x hx
    have hx : x ∈ (slots b).take i ∨ x = (at2 b 2 - r.length, r.length) ∨ x ∈ (slots b).drop i := by simpa using hx
    rcases hx with hx | rfl | hx
    · have := h.fit.lies x (List.mem_of_mem_take hx); omega
    · exact ⟨Nat.le_refl _, by show at2 b 2 - r.length + r.length ≤ 232; omega⟩
    · have := h.fit.lies x (List.mem_of_mem_drop hx); omega
  · have hp := h.fit.apart
    rw [← List.take_append_drop i (slots b), List.pairwise_append] at hp
    rw [List.pairwise_append, List.pairwise_cons]
    have hz : ∀ y ∈ slots b, apart (at2 b 2 - r.length, r.length) y = true := by
      intro y hy
      have := (h.fit.lies y hy).1
      rw [apart_iff]
      exact .inr (.inr (.inl (by show at2 b 2 - r.length + r.length ≤ y.1; omega)))
    refine ⟨hp.1, ⟨fun y hy => hz y (List.mem_of_mem_drop hy), hp.2.1⟩, fun x hx y hy => ?_⟩
    rcases List.mem_cons.1 hy with rfl | hy
    · rw [apart_comm]; exact hz x (List.mem_of_mem_take hx)
    · exact hp.2.2 x hx y hy
theorem Sound.insert {b : List UInt8} (h : Sound b) (i : Nat) (r : List UInt8) (hr : (r.length : Int) ≤ roomF b - 4) (hi : i ≤ at2 b 0) :
    Sound (insF b i r) ∧ recs (insF b i r) = (recs b).take i ++ r :: (recs b).drop i := by
  obtain ⟨hs, he, h0, hh⟩ := h.base r hr
  rw [← h0] at hi hh
  have L := Laid.insert hs i r hh hi
  refine ⟨L.sound, ?_⟩
  have h2 := hs.len
  have h3 := hs.heap
  have key : ∀ x ∈ slots (baseF b r), rec1 (lay (baseF b r) (at2 (baseF b r) 2 - r.length) r) x = rec1 (baseF b r) x := by
    intro x hx
    have := (hs.fit.lies x hx).1
    exact rec1_lay (by omega) x (.inr (by omega))
  unfold insF
  rw [L.rcs, List.map_append, List.map_cons, rec1_self (by omega), ← he]
  unfold recs
  rw [List.map_congr_left (fun x hx => key x (List.mem_of_mem_take hx)), List.map_congr_left (fun x hx => key x (List.mem_of_mem_drop hx)), List.map_take, List.map_drop]
/-! a record taken out -/
def delF (b : List UInt8) (i : Nat) : List UInt8 := withF b ((slots b).take i ++ (slots b).drop (i + 1)) (at2 b 2)
theorem Sound.delete {b : List UInt8} (h : Sound b) (i : Nat) (hi : i < at2 b 0) : Sound (delF b i) ∧ recs (delF b i) = (recs b).take i ++ (recs b).drop (i + 1) := by
  have hl := slots_length b
  have h4 := h.head
  have L : Laid b ((slots b).take i ++ (slots b).drop (i + 1)) (at2 b 2) := by
    refine ⟨h.len, h.heap, by simp [hl]; omega, fun x hx => ?_, ?_⟩
    · rcases List.mem_append.1 hx with hx | hx
      · exact h.fit.lies x (List.mem_of_mem_take hx)
      · exact h.fit.lies x (List.mem_of_mem_drop hx)
    · have hp := h.fit.apart
      rw [← List.take_append_drop i (slots b), List.pairwise_append] at hp
      rw [List.pairwise_append]
      have e : ∀ x ∈ (slots b).drop (i + 1), x ∈ (slots b).drop i := by
        intro x hx
        rw [← List.drop_drop] at hx
        exact List.mem_of_mem_drop hx
      refine ⟨hp.1, ?_, fun x hx y hy => hp.2.2 x hx y (e y hy)⟩
      rw [← List.drop_drop]
      exact hp.2.1.drop
  refine ⟨L.sound, ?_⟩
  unfold delF
  rw [L.rcs]
  simp [recs, List.map_take, List.map_drop]
/-! an empty payload -/
def emptyF : List UInt8 := put2 (List.replicate 232 0) 2 232
theorem empty_sound : Sound emptyF ∧ recs emptyF = [] ∧ at2 emptyF 0 = 0 ∧ at2 emptyF 2 = 232 := by
  have e0 : at2 emptyF 0 = 0 := by decide
  have e2 : at2 emptyF 2 = 232 := by decide
  have es : slots emptyF = [] := by unfold slots; rw [e0]; rfl
  exact ⟨⟨by unfold emptyF; rw [put2_length, List.length_replicate], by omega, by omega, by rw [es]; exact Fit.nil _⟩, by unfold recs; rw [es]; rfl, e0, e2⟩
end Go.Proofs.Yticehnnbjbliaab.Sl
