/- a pool in which nothing is dirty and nothing is held, over a healthy store: its calls as the document has them. -/
import Derived.Test.YtbelcgjbhpjnpaaSq
namespace Go.Proofs.Ytbelcgjbhpjnpaa.Sh
open Go.RowKit Pk Dk Pg
theorem at_set {a : St} {l q : Int} (h : q ≠ l) (hl : 0 ≤ l) (v : Option (Bool × List UInt8)) : ({ a with now := a.now.set l.toNat v } : St).at q = a.at q := by
  unfold St.at
  by_cases h0 : 0 ≤ q
  · rw [if_pos h0, if_pos h0]
    show ((a.now.set l.toNat v)[q.toNat]?).getD none = _
    rw [List.getElem?_set, if_neg (by omega)]
  · rw [if_neg h0, if_neg h0]
theorem at_some {a : St} {l : Int} (h : (a.at l).isSome = true) : 0 ≤ l ∧ l.toNat < a.now.length := by
  unfold St.at at h
  by_cases h0 : 0 ≤ l
  · rw [if_pos h0] at h
    refine ⟨h0, ?_⟩
    rcases Nat.lt_or_ge l.toNat a.now.length with h1 | h1
    · exact h1
    · rw [List.getElem?_eq_none h1] at h; simp at h
  · rw [if_neg h0] at h; simp at h
theorem read_drop {a : St} {l q : Int} (h : q ≠ l) : (a.dropF l).1.readF q = a.readF q := by
  unfold St.dropF
  split
  · rename_i hs
    unfold St.readF
    rw [at_set h (at_some hs).1]
  · rfl
theorem slot_le (a : St) : a.slot ≤ a.now.length := List.findIdx_le_length
theorem slot_none (a : St) : a.at (a.slot : Nat) = none := by
  unfold St.at
  rw [if_pos (by omega), show (((a.slot : Nat) : Int)).toNat = a.slot by omega]
  rcases Nat.lt_or_ge a.slot a.now.length with h | h
  · have := List.findIdx_getElem (p := Option.isNone) (xs := a.now) (w := h)
    unfold St.slot at h ⊢
    rw [List.getElem?_eq_getElem h]
    simpa using this
  · rw [List.getElem?_eq_none h]; rfl
theorem at_put {a : St} (v : Option (Bool × List UInt8)) (q : Int) : ({ a with now := putS a.now a.slot v } : St).at q = if q = (a.slot : Nat) then v else a.at q := by
  unfold St.at
  by_cases h0 : 0 ≤ q
  · rw [if_pos h0]
    show ((putS a.now a.slot v)[q.toNat]?).getD none = _
    rw [get_putT _ _ _ (slot_le a)]
    by_cases e : q = (a.slot : Nat)
    · rw [if_pos e, if_pos (by omega)]; rfl
    · rw [if_neg e, if_neg (by omega), if_pos h0]
  · rw [if_neg h0, if_neg (by omega), if_neg h0]
theorem read_new {a : St} {q : Int} (h : (a.readF q).2 = 0) (p : List UInt8) : (a.newF p).1.readF q = a.readF q := by
  unfold St.newF
  split
  · rfl
  · split
    · rfl
    · unfold St.readF
      rw [at_put, if_neg]
      rintro rfl
      unfold St.readF at h
      rw [slot_none] at h
      simp at h
theorem Frames.new {a : St} {l : List Fr} (h : Frames a l) (p : List UInt8) : Frames (a.newF p).1 l :=
  ⟨fun f hf => by
    obtain ⟨a1, a2, a3⟩ := h.1 f hf
    exact ⟨a1, a2, a3.imp id (fun e => by rw [read_new (by rw [e]) p]; exact e)⟩, h.2⟩
theorem Frames.drop {a : St} {l : List Fr} (h : Frames a l) (q : Int) (hn : ∀ f ∈ l, f.page = q → f.page < 0) : Frames (a.dropF q).1 l :=
  ⟨fun f hf => by
    obtain ⟨a1, a2, a3⟩ := h.1 f hf
    refine ⟨a1, a2, a3.imp id (fun e => ?_)⟩
    by_cases e2 : f.page = q
    · have := hn f hf e2
      unfold St.readF St.at at e
      rw [if_neg (by omega)] at e
      simp at e
    · rw [read_drop e2]; exact e, h.2⟩
theorem Frames.nil {a : St} {l : List Fr} (h : Frames a l) (k : Nat) : Frames a (l.set k Fr.nil) := by
  refine ⟨fun f hf => ?_, fun i j f g hi hj he h0 => ?_⟩
  · rcases List.mem_or_eq_of_mem_set hf with hf | rfl
    · exact h.1 f hf
    · exact ⟨rfl, rfl, .inl (by show (-1 : Int) < 0; omega)⟩
  · rw [List.getElem?_set] at hi hj
    have hnil : ¬ 0 ≤ Fr.nil.page := by show ¬ (0 : Int) ≤ -1; omega
    by_cases e1 : k = i <;> by_cases e2 : k = j
    · omega
    · rw [if_pos e1] at hi
      split at hi
      · injection hi with hi; subst hi; exact absurd h0 hnil
      · cases hi
    · rw [if_pos e2] at hj
      split at hj
      · injection hj with hj; subst hj; exact absurd (by rw [← he]; exact h0) hnil
      · cases hj
    · rw [if_neg e1] at hi
      rw [if_neg e2] at hj
      exact h.2 i j f g hi hj he h0
/-- a pool, a store in it, and what the document says of them: F the blocks, k a bound on the disk's calls -/
def AtQ (w : World) (pb sb : Nat) (F : List Nat) (a : St) (k : Int) : Prop := ∃ y n s, y.pb = pb ∧ y.x.b = sb ∧ y.fp = F ∧ AtP w y n s ∧ PGood s n ∧ s.c.absF n = a ∧ s.c.d.calls ≤ k
/-- behind a call -/
def PostQ (w w' : World) (pb sb : Nat) (F : List Nat) (a : St) (k : Int) : Prop := ∃ F', AtQ w' pb sb F' a k ∧ Only F w w' ∧ ∀ g ∈ F', g ∈ F ∨ w.heap.size ≤ g
section
variable {w w' : World} {pb sb : Nat} {F S : List Nat} {a : St} {k : Int}
theorem AtQ.only (h : AtQ w pb sb F a k) (ho : Only S w w') (hd : ∀ g ∈ F, g ∉ S) : AtQ w' pb sb F a k := by
  obtain ⟨y, n, s, e1, e2, e3, A, G, e4, e5⟩ := h
  exact ⟨y, n, s, e1, e2, e3, A.only ho (by rw [e3]; exact hd), G, e4, e5⟩
theorem AtQ.below (h : AtQ w pb sb F a k) (hb : Below w.heap.size w w') : AtQ w' pb sb F a k := h.only (S := []) (.of_below hb) (by simp)
theorem AtQ.lt (h : AtQ w pb sb F a k) : ∀ g ∈ F, g < w.heap.size := by
  obtain ⟨y, n, s, e1, e2, e3, A, G, e4, e5⟩ := h
  rw [← e3]; exact A.lt
theorem AtQ.le {j : Int} (h : AtQ w pb sb F a k) (hj : k ≤ j) : AtQ w pb sb F a j := by
  obtain ⟨y, n, s, e1, e2, e3, A, G, e4, e5⟩ := h
  exact ⟨y, n, s, e1, e2, e3, A, G, e4, by omega⟩
theorem AtQ.len (h : AtQ w pb sb F a k) {l : Int} (hr : (a.readF l).2 = 0) : (a.readF l).1.length = 232 := by
  obtain ⟨y, n, s, e1, e2, e3, A, G, e4, e5⟩ := h
  rw [← e4] at hr ⊢
  exact read_len G.g hr
theorem PostQ.self (h : AtQ w' pb sb F a k) (ho : Only F w w') : PostQ w w' pb sb F a k := ⟨F, h, ho, fun _ hg => .inl hg⟩
theorem PostQ.trans {w1 w2 : World} {a1 a2 : St} {k1 k2 : Int} (h : PostQ w w1 pb sb F a1 k1) (hn : ∀ F', AtQ w1 pb sb F' a1 k1 → PostQ w1 w2 pb sb F' a2 k2) : PostQ w w2 pb sb F a2 k2 := by
  obtain ⟨F1, A1, o1, f1⟩ := h
  obtain ⟨F2, A2, o2, f2⟩ := hn F1 A1
  refine ⟨F2, A2, o1.trans_of o2 (fun g hg hlt => (f1 g hg).elim id (fun h => by omega)), fun g hg => ?_⟩
  rcases f2 g hg with h | h
  · exact f1 g h
  · exact .inr (Nat.le_trans o1.size h)
theorem qget_any (h : AtQ w pb sb F a k) (p : Int) :
    Calls Try.prog 56 #[pp pb, .int .i64 p] w fun e w' => e = .returned (.tuple #[.string ⟨(a.readF p).1.toArray⟩, .int .i64 (a.readF p).2]) ∧ AtQ w' pb sb F a k ∧ Only F w w' := by
  obtain ⟨y, n, s, rfl, rfl, rfl, A, G, rfl, e5⟩ := h
  obtain ⟨r1, r2, r3, r4, r5⟩ := get_plain G A.lh p
  have hc := G.fr.clean
  have hb1 : (s.holdF n p).2.1 = ⟨((s.c.absF n).readF p).1.toArray⟩ := by
    apply ByteArray.ext
    apply Array.toList_inj.1
    exact r1
  by_cases h0 : ((s.c.absF n).readF p).2 = 0
  · refine (get_good A p hc (by rw [r2, h0]) r3).mono ?_
    rintro e w' ⟨rfl, A', o⟩
    obtain ⟨G2, c2⟩ := r4 h0
    exact ⟨by rw [hb1, h0], ⟨y, n, _, rfl, rfl, rfl, A', G2, by rw [c2], by rw [c2]; exact e5⟩, o⟩
  · refine (get_bad A p hc (by rw [r2]; exact h0)).mono ?_
    rintro e w' ⟨rfl, A', o⟩
    rw [r5 h0] at A'
    have : ((s.c.absF n).readF p).1 = [] := by
      unfold St.readF at h0 ⊢
      split
      · rename_i h; rw [h] at h0; simp at h0
      · rfl
    exact ⟨by rw [r2, this], ⟨y, n, s, rfl, rfl, rfl, A', G, rfl, e5⟩, o⟩
theorem qnew_any (h : AtQ w pb sb F a k) (v : ByteArray) (hs : v.size ≤ 9223372036854775807) (hk : k ≤ 999999990) :
    Calls Try.prog 24 #[pp pb, .string v] w fun e w' => e = .returned (.tuple #[.int .i64 (a.newF v.data.toList).2.1, .int .i64 (a.newF v.data.toList).2.2]) ∧ PostQ w w' pb sb F (a.newF v.data.toList).1 (k + 4) := by
  obtain ⟨y, n, s, rfl, rfl, rfl, A, G, rfl, e5⟩ := h
  obtain ⟨g1, g2, g3, g4, _⟩ := new_good G.g v.data.toList
  have he := G.g.ep
  refine (pmake_any A v hs (by omega) (by omega) (by rw [G.g.arm]; omega)).mono ?_
  rintro e w' ⟨rfl, y', a1, a2, a3, a4, a5, A', o, fr⟩
  refine ⟨by rw [g3], y'.fp, ⟨y', n, _, a1, a4, rfl, A', ⟨g1, ?_⟩, g2, by show (s.c.newF n v.data.toList).1.d.calls ≤ k + 4; omega⟩, o, fr⟩
  show Frames ((s.c.newF n v.data.toList).1.absF n) s.l
  rw [g2]
  exact G.fr.new _
theorem qdrop_any (h : AtQ w pb sb F a k) (p : Int) :
    Calls Try.prog 26 #[pp pb, .int .i64 p] w fun e w' => e = .returned (.int .i64 (a.dropF p).2) ∧ AtQ w' pb sb F (a.dropF p).1 k ∧ Only F w w' := by
  obtain ⟨y, n, s, rfl, rfl, rfl, A, G, rfl, e5⟩ := h
  obtain ⟨g1, g2, g3, g4, _⟩ := drop_good G.g p
  rcases findF_le s.l p with e | ⟨j, f, e, hf, hp, h0⟩
  · refine (pdrop_out A p e).mono ?_
    rintro e w' ⟨rfl, A', o⟩
    refine ⟨by rw [g3], ⟨y, n, _, rfl, rfl, rfl, A', ⟨g1, ?_⟩, g2, by show (s.c.dropF p).1.d.calls ≤ k; rw [g4]; exact e5⟩, o⟩
    show Frames ((s.c.dropF p).1.absF n) s.l
    rw [g2]
    exact G.fr.drop p (fun f hf hp => by
      by_cases h0 : 0 ≤ p
      · exact absurd hp (findF_none (by assumption) h0 f hf)
      · omega)
  · refine (pdrop_in A p j e hf (G.fr.1 f (List.mem_of_getElem? hf)).2.1).mono ?_
    rintro e w' ⟨rfl, A', o⟩
    refine ⟨by rw [g3], ?_, o⟩
    have hun : ∀ (i : Nat) (g : Fr), s.l[i]? = some g → g.page = p → i = j := fun i g hi hg => G.fr.2 i j g f hi hf (by omega) (by omega)
    by_cases hz : (s.c.dropF p).2 = 0
    · rw [if_pos hz] at A'
      refine ⟨y, n, _, rfl, rfl, rfl, A', ⟨g1, ?_⟩, g2, by show (s.c.dropF p).1.d.calls ≤ k; rw [g4]; exact e5⟩
      show Frames ((s.c.dropF p).1.absF n) (s.l.set j Fr.nil)
      rw [g2]
      refine (G.fr.nil j).drop p (fun g hg hgp => ?_)
      obtain ⟨i, hi⟩ := List.getElem?_of_mem hg
      rw [List.getElem?_set] at hi
      by_cases e2 : j = i
      · rw [if_pos e2] at hi
        split at hi
        · injection hi with hi; subst hi; show (-1 : Int) < 0; omega
        · cases hi
      · rw [if_neg e2] at hi
        exact absurd (hun i g hi hgp).symm e2
    · rw [if_neg hz] at A'
      have : ((s.c.absF n).dropF p).1 = s.c.absF n := by
        rw [g3] at hz
        unfold St.dropF at hz ⊢
        split
        · rename_i h; rw [if_pos h] at hz; simp at hz
        · rfl
      refine ⟨y, n, _, rfl, rfl, rfl, A', ⟨g1, ?_⟩, g2, by show (s.c.dropF p).1.d.calls ≤ k; rw [g4]; exact e5⟩
      show Frames ((s.c.dropF p).1.absF n) s.l
      rw [g2, this]
      exact G.fr
theorem qstore_any (h : AtQ w pb sb F a k) : Calls Try.prog 16 #[pp pb] w fun e w' => e = .returned (sp sb) ∧ w = w' := by
  obtain ⟨y, n, s, rfl, rfl, rfl, A, G, rfl, e5⟩ := h
  exact pstore_any A
theorem qcount_any (h : AtQ w pb sb F a k) : Calls Try.prog 18 #[sp sb] w fun e w' => (∃ x y z : Nat, e = .returned (.tuple #[.int .i64 (a.free : Nat), .int .i64 x, .int .i64 y, .int .i64 z])) ∧ Below w.heap.size w w' := by
  obtain ⟨y, n, s, rfl, rfl, rfl, A, G, rfl, e5⟩ := h
  refine (scount_any A.hs).mono ?_
  rintro e w' ⟨rfl, hb⟩
  rw [(free_count G.g).1]
  exact ⟨⟨_, _, _, rfl⟩, hb⟩
end
/-- the pages that are there -/
def pgsS (t : List (Option (Bool × List UInt8))) : Nat → List Int
  | 0 => []
  | k + 1 => pgsS t k ++ if ((t[k]?).getD none).isSome then [(k : Int)] else []
theorem pgs_abs {c : C} {n : Nat} : ∀ k, k ≤ c.table.length → pgs c.table k = pgsS (c.absF n).now k
  | 0, _ => rfl
  | k + 1, h => by
    unfold pgs pgsS
    rw [pgs_abs k (by omega)]
    congr 1
    unfold C.absF
    simp only [List.getElem?_map, List.getElem?_eq_getElem (show k < c.table.length by omega), List.getD, Option.map_some, Option.getD_some, C.slotOf]
    by_cases h0 : c.table[k] < 0
    · rw [if_pos h0, if_neg (by omega)]; rfl
    · rw [if_neg h0, if_pos (by omega)]; rfl
def St.pages (a : St) : List Int := pgsS a.now a.now.length
theorem qpages_any {w : World} {pb sb : Nat} {F : List Nat} {a : St} {k : Int} (h : AtQ w pb sb F a k) :
    Calls Try.prog 17 #[sp sb] w fun e w' => ∃ A cc, e = .returned (.slice A a.pages.length cc) ∧ Slc w' 3 1 (.slice A a.pages.length cc) a.pages.length (nvs' a.pages) ∧ Below w.heap.size w w' := by
  obtain ⟨y, n, s, rfl, rfl, rfl, A, G, rfl, e5⟩ := h
  have e : pgs s.c.table s.c.table.length = (s.c.absF n).pages := by
    rw [pgs_abs (n := n) _ (Nat.le_refl _)]
    unfold St.pages C.absF
    rw [List.length_map]
  have := pages_list A.hs
  rw [e] at this
  exact this
end Go.Proofs.Ytbelcgjbhpjnpaa.Sh
