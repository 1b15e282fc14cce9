/- the healthy store: what Open finds of what was committed, plainly. -/
import Derived.Test.YtbelcgjbhpjnpaaGreatMb
import Derived.Test.YtbelcgjbhpjnpaaGreatOa
import Derived.Test.YtbelcgjbhpjnpaaGreatTb
set_option linter.all false
set_option linter.unusedVariables false
set_option linter.unusedSimpArgs false
set_option maxRecDepth 100000
namespace Go.Proofs.YtbelcgjbhpjnpaaGreat.Sh
open Go.RowKit Pk Dk Pg
/-- what was committed lies on the disk: the pages' payloads are o -/
structure OnDisk (d : D) (n : Nat) (ep slot : Int) (old parts : List Int) (o : List (Option (List UInt8))) : Prop where
 r : Rooted d n ep slot old parts
 oi : ∀ x ∈ old, x = -1 ∨ (0 ≤ x ∧ x < (pagesF n : Nat))
 oj : Inj old
 pi : ∀ x ∈ parts, 0 ≤ x ∧ x < (pagesF n : Nat)
 dt : ∀ x ∈ parts, x ∉ old
 ro : ∀ x ∈ old, 0 ≤ x → PageOk (upD d) n x ep
 ab : old.map (fun x => if x < 0 then none else some (preadF (upD d) n x).1.s) = o
theorem on_disk {c : C} {n : Nat} (g : Good c n) (R : Rooted c.d n c.ep c.slot c.old c.parts) : OnDisk c.d n c.ep c.slot c.old c.parts (c.absF n).old :=
 ⟨R, fun x hx => by have := g.oi x hx; rw [g.ml] at this; exact this, g.oj, fun x hx => by have := g.pi x hx; rw [g.ml] at this; exact this, fun x hx => (g.dt x hx).2, by rw [upD_eq g.up]; exact g.ro, by rw [upD_eq g.up]; rfl⟩
theorem pread_calm {d d' : D} {n : Nat} {parts old : List Int} (h : Calm n (Kept parts old) d d') {x : Int} (hx : x ∈ old) (h0 : 0 ≤ x) (hm : x < (manyF n : Nat)) : preadF (upD d') n x = preadF (upD d) n x := by
 have := pread_sec (d := upD d) (d' := upD d') (n := n) rfl x.toNat (by omega) (fun j a b => (h j (by have := many_le (show x.toNat < manyF n by omega); omega) (.inr ⟨x.toNat, .inr (by rw [show ((x.toNat : Nat) : Int) = x by omega]; exact hx), a, b⟩)).1)
 rwa [show ((x.toNat : Nat) : Int) = x by omega] at this
theorem pages_many {n : Nat} {x : Int} (h : x < (pagesF n : Nat)) : x < (manyF n : Nat) := by unfold pagesF at h; omega
theorem OnDisk.calm {d d' : D} {n : Nat} {ep slot : Int} {old parts : List Int} {o : List (Option (List UInt8))} (h : OnDisk d n ep slot old parts o) (hc : Calm n (Kept parts old) d d') : OnDisk d' n ep slot old parts o := by
 have key : ∀ x ∈ old, 0 ≤ x → preadF (upD d') n x = preadF (upD d) n x := fun x hx h0 => pread_calm hc hx h0 (pages_many (by have := h.oi x hx; omega))
 refine ⟨h.r.calm hc, h.oi, h.oj, h.pi, h.dt, fun x hx h0 => ?_, ?_⟩
 ·obtain ⟨q, s, q1, q2, q3, q4⟩ := h.ro x hx h0
  exact ⟨q, s, q1, q2, q3, (key x hx h0).trans q4⟩
 ·rw [← h.ab]
  refine List.map_congr_left (fun x hx => ?_)
  by_cases h0 : x < 0
  ·rw [if_pos h0, if_pos h0]
  ·rw [if_neg h0, if_neg h0, key x hx (by omega)]
theorem use_free {m : List Int} {x : Nat} (hx : x < m.length) (h0 : m.getD x 0 = 0) : Fm.useF m ((x : Nat) : Int) = (m.set x 1, 0) := by
 unfold Fm.useF
 rw [show Fm.inF m ((x : Nat) : Int) = true from by unfold Fm.inF; simp; omega, if_pos rfl, show ((x : Nat) : Int).toNat = x by omega, if_pos h0]
theorem pad_at2 (s : List Int) (hs : ∀ x ∈ s, x ≤ 1023) (j : Nat) (hj : j < s.length) (k : Nat) : Rt.at2 (padL (Rt.partF s) k) (2 * j) = Rt.num1 s[j] := by
 unfold padL Rt.partF
 rw [Rt.at2_flat (s.map Rt.num1) _ j (by simpa using hj) (fun x hx => by
  obtain ⟨y, hy, rfl⟩ := List.mem_map.1 hx
  have := hs y hy
  unfold Rt.num1; omega)]
 simp
theorem seg_take (l : List Int) (i : Nat) : l.take (116 * i) ++ Rt.segF l i = l.take (116 * (i + 1)) := by
 unfold Rt.segF
 rw [show 116 * (i + 1) = 116 * i + 116 by omega, List.take_add]
theorem getF_seg (s : List Int) (hs : ∀ x ∈ s, -1 ≤ x ∧ x ≤ 1023) (k : Nat) : Rt.getF (padL (Rt.partF s) k) s.length = s := by
 unfold Rt.getF
 apply List.ext_getElem
 ·simp
 ·intro j h1 h2
  rw [List.getElem_map, List.getElem_range, pad_at2 s (fun x hx => (hs x hx).2) j h2 k]
  have := hs s[j] (List.getElem_mem h2)
  unfold Rt.num1
  omega
/-- a page that is in order, where it is free -/
theorem check_free {c : C} {n : Nat} {x : Nat} (hx : x < c.m.length) (h0 : c.m.getD x 0 = 0) {q kd : Int} {s : List UInt8} (hp : preadF c.d n ((x : Nat) : Int) = (⟨x, q, kd, s⟩, 0)) (hq : q ≤ c.ep) : c.checkF n ((x : Nat) : Int) kd = ({ c with m := c.m.set x 1 }, ⟨x, q, kd, s⟩, 0) := by
 unfold C.checkF
 rw [use_free hx h0, if_neg (by simp), hp, if_neg (by simp), if_neg (show ¬ (kd ≠ kd ∨ c.ep < q) by omega)]
section
variable {d : D} {n : Nat} {ep slot : Int} {old parts : List Int} {o : List (Option (List UInt8))}
theorem OnDisk.old_bd (h : OnDisk d n ep slot old parts o) : ∀ x ∈ old, -1 ≤ x ∧ x ≤ 1023 := fun x hx => by
 have := h.oi x hx
 have : pagesF n ≤ 1024 := by unfold pagesF; omega
 omega
theorem OnDisk.root (h : OnDisk d n ep slot old parts o) : Rt.decP (sec d.now slot.toNat) = parts.map Int.toNat ∧ Rt.decEp (sec d.now slot.toNat) = ep ∧ Rt.at2 (Rt.decM (sec d.now slot.toNat)) 0 = old.length ∧ Rt.goodR (sec d.now slot.toNat) := by
 have hr : Rt.rightR ep (old.length : Nat) (Rt.natI (parts.map Int.toNat)) := by rw [rooted_nat h.r]; exact h.r.ro
 rw [h.r.rt]
 obtain ⟨e1, e2, e3, e4⟩ := Rt.dec_root ep old.length (parts.map Int.toNat) hr
 exact ⟨e4, e1, e2, Rt.good_root ep old.length _ hr⟩
theorem OnDisk.newest (h : OnDisk d n ep slot old parts o) {t : List UInt8} {k : Int} (hk : Newest (sec d.now 0) (sec d.now 1) t k) : t = sec d.now slot.toNat ∧ k = slot := by
 obtain ⟨_, r2, _, r4⟩ := h.root
 have ho := h.r.ot
 rcases h.r.sl with hs | hs
 ·subst hs
  have ho : Rt.goodR (sec d.now 1) → Rt.decEp (sec d.now 1) < ep := ho
  have r2 : Rt.decEp (sec d.now 0) = ep := r2
  have r4 : Rt.goodR (sec d.now 0) := r4
  rcases hk with ⟨_, rfl, hg, hlt⟩ | ⟨rfl, rfl, _⟩
  ·have := hlt r4
   have := ho hg
   omega
  ·exact ⟨rfl, rfl⟩
 ·subst hs
  have ho : Rt.goodR (sec d.now 0) → Rt.decEp (sec d.now 0) < ep := ho
  have r2 : Rt.decEp (sec d.now 1) = ep := r2
  have r4 : Rt.goodR (sec d.now 1) := r4
  rcases hk with ⟨rfl, rfl, _⟩ | ⟨_, rfl, hg, hlt⟩
  ·exact ⟨rfl, rfl⟩
  ·have := hlt r4
   have := ho hg
   omega
theorem repl_get (k j : Nat) : (List.replicate k (0 : Int)).getD j 0 = 0 := by
 simp only [List.getD, List.getElem?_replicate]
 split <;> rfl
/-- the parts are loaded -/
theorem OnDisk.load (h : OnDisk d n ep slot old parts o) (hd : d.down = false) {c : C} (hc : c = { d := d, m := List.replicate (pagesF n) 0, table := [], old := [], parts := parts, ep := ep, slot := slot, broken := false }) : ∀ i, i ≤ parts.length →
  ∃ m, c.loadF n old.length i = ({ c with m := m, table := old.take (116 * i) }, 0) ∧ m.length = pagesF n ∧ ∀ j : Nat, j < pagesF n → m.getD j 0 = if (j : Int) ∈ parts.take i then 1 else 0
 | 0, _ => ⟨List.replicate (pagesF n) 0, by subst hc; rfl, by simp, fun j _ => by rw [repl_get]; simp⟩
 | i + 1, hi => by
  obtain ⟨m, e, ml, mg⟩ := OnDisk.load h hd hc i (by omega)
  obtain ⟨x, hx⟩ : ∃ x, parts[i]? = some x := ⟨_, List.getElem?_eq_getElem (by omega)⟩
  have hxm := List.mem_of_getElem? hx
  obtain ⟨x0, x1⟩ := h.pi x hxm
  obtain ⟨k, rfl⟩ := Int.eq_ofNat_of_zero_le x0
  obtain ⟨q, q0, q1, q2⟩ := h.r.pp i _ hx
  rw [upD_eq hd] at q2
  have hnot : ((k : Nat) : Int) ∉ parts.take i := (h.r.ro.2.2.2.2.2 i _ hx).2.2
  have eD : c.parts.getD i 0 = ((k : Nat) : Int) := by rw [hc]; simp [List.getD, hx]
  have hck : ({ c with m := m, table := old.take (116 * i) } : C).checkF n ((k : Nat) : Int) 1 = ({ c with m := m.set k 1, table := old.take (116 * i) }, ⟨k, q, 1, padL (Rt.partF (Rt.segF old i)) 232⟩, 0) :=
   check_free (c := { c with m := m, table := old.take (116 * i) }) (by show k < m.length; rw [ml]; omega) (by show m.getD k 0 = 0; rw [mg k (by omega), if_neg hnot]) (by rw [hc]; exact q2) (by rw [hc]; exact q1)
  have hseg : ∀ y ∈ Rt.segF old i, -1 ≤ y ∧ y ≤ 1023 := fun y hy => h.old_bd y (List.mem_of_mem_drop (List.mem_of_mem_take hy))
  have hlen : (Rt.segF old i).length = min 116 (old.length - 116 * i) := Rt.segF_length old i
  have hany : ¬ (List.range (min 116 (old.length - 116 * i))).any (fun j => decide (1024 < Rt.at2 (padL (Rt.partF (Rt.segF old i)) 232) (2 * j))) = true := by
   rw [any_or]
   rintro ⟨j, hj, hlt⟩
   rw [← hlen] at hj
   rw [pad_at2 _ (fun y hy => (hseg y hy).2) j hj] at hlt
   have := hseg _ (List.getElem_mem hj)
   unfold Rt.num1 at hlt
   omega
  refine ⟨m.set k 1, ?_, by rw [List.length_set]; exact ml, fun j hj => ?_⟩
  ·rw [loadF_succ, e, if_neg (by simp), eD]
   unfold C.loadOne
   rw [hck, if_neg (by simp)]
   dsimp only
   rw [if_neg hany, ← hlen, getF_seg _ hseg, seg_take]
  ·rw [getD_set' _ _ _ _ (by omega), mg j hj, List.take_succ_eq_append_getElem (by omega)]
   have hxk : parts[i] = ((k : Nat) : Int) := (List.getElem?_eq_some_iff.1 hx).2
   rw [hxk]
   by_cases ej : k = j
   ·subst ej
    rw [if_pos rfl, if_pos (List.mem_append_right _ (List.mem_singleton.2 rfl))]
   ·rw [if_neg ej]
    have : ((j : Int) ∈ parts.take i ++ [((k : Nat) : Int)]) ↔ (j : Int) ∈ parts.take i := by
     rw [List.mem_append, List.mem_singleton]
     exact ⟨fun h => h.elim id (fun h => by omega), .inl⟩
    simp only [this]
theorem OnDisk.scan (h : OnDisk d n ep slot old parts o) (hd : d.down = false) {c : C} (hc : c.d = d ∧ c.ep = ep ∧ c.table = old) (hm : c.m.length = pagesF n ∧ ∀ j : Nat, j < pagesF n → c.m.getD j 0 = if (j : Int) ∈ parts then 1 else 0) : ∀ i, i ≤ old.length →
  ∃ m, c.scanF n i = ({ c with m := m }, 0) ∧ m.length = pagesF n ∧ ∀ j : Nat, j < pagesF n → m.getD j 0 = if (j : Int) ∈ parts ∨ (j : Int) ∈ old.take i then 1 else 0
 | 0, _ => ⟨c.m, rfl, hm.1, fun j hj => by rw [hm.2 j hj]; simp⟩
 | i + 1, hi => by
  obtain ⟨m, e, ml, mg⟩ := OnDisk.scan h hd hc hm i (by omega)
  obtain ⟨x, hx⟩ : ∃ x, old[i]? = some x := ⟨_, List.getElem?_eq_getElem (by omega)⟩
  have hxm := List.mem_of_getElem? hx
  have eD : c.table.getD i 0 = x := by rw [hc.2.2]; simp [List.getD, hx]
  have hxk : old[i] = x := (List.getElem?_eq_some_iff.1 hx).2
  rw [scanF_succ, e, if_neg (by simp), eD]
  by_cases hneg : x < 0
  ·rw [if_pos hneg]
   refine ⟨m, rfl, ml, fun j hj => ?_⟩
   rw [mg j hj, List.take_succ_eq_append_getElem (by omega), hxk]
   have : ((j : Int) ∈ old.take i ++ [x]) ↔ (j : Int) ∈ old.take i := by
    rw [List.mem_append, List.mem_singleton]
    exact ⟨fun h => h.elim id (fun h => by omega), .inl⟩
   simp only [this]
  ·rw [if_neg hneg]
   have hoi := h.oi x hxm
   obtain ⟨k, rfl⟩ := Int.eq_ofNat_of_zero_le (show 0 ≤ x by omega)
   obtain ⟨q, s, q0, q1, q2, q3⟩ := h.ro _ hxm (by omega)
   rw [upD_eq hd] at q3
   have hnot : ¬ (((k : Nat) : Int) ∈ parts ∨ ((k : Nat) : Int) ∈ old.take i) := by
    rintro (hp | hp)
    ·exact h.dt _ hp hxm
    ·obtain ⟨j, hj⟩ := List.getElem?_of_mem hp
     have hji := (List.getElem?_eq_some_iff.1 hj).1
     rw [List.length_take] at hji
     have := h.oj j i _ (get_take hj) hx (by omega)
     omega
   have hck : ({ c with m := m } : C).checkF n ((k : Nat) : Int) 2 = ({ c with m := m.set k 1 }, ⟨k, q, 2, s⟩, 0) :=
    check_free (c := { c with m := m }) (by show k < m.length; rw [ml]; omega) (by show m.getD k 0 = 0; rw [mg k (by omega), if_neg hnot]) (by show preadF c.d n _ = _; rw [hc.1]; exact q3) (by show q ≤ c.ep; rw [hc.2.1]; exact q1)
   rw [hck]
   refine ⟨m.set k 1, rfl, by rw [List.length_set]; exact ml, fun j hj => ?_⟩
   rw [getD_set' _ _ _ _ (by omega), mg j hj, List.take_succ_eq_append_getElem (by omega), hxk]
   by_cases ej : k = j
   ·subst ej
    rw [if_pos rfl, if_pos (.inr (List.mem_append_right _ (List.mem_singleton.2 rfl)))]
   ·rw [if_neg ej]
    have : ((j : Int) ∈ old.take i ++ [((k : Nat) : Int)]) ↔ (j : Int) ∈ old.take i := by
     rw [List.mem_append, List.mem_singleton]
     exact ⟨fun h => h.elim id (fun h => by omega), .inl⟩
    simp only [this]
/-- what Open makes of it -/
theorem OnDisk.opened (h : OnDisk d n ep slot old parts o) (hd : d.down = false) (ha : d.armed = 0) (hok : d.Ok n) (he : ep < 1099511627776) {t : List UInt8} {k : Int} (hk : Newest (sec d.now 0) (sec d.now 1) t k) :
  ∃ c, (rawC d n t k).openF n (Rt.at2 (Rt.decM t) 0) = (c, 0) ∧ c.d = d ∧ c.ep = ep ∧ c.slot = slot ∧ c.old = old ∧ c.parts = parts ∧ Good c n ∧ c.absF n = { many := pagesF n, now := oldS o, old := o, ep := ep } := by
 obtain ⟨rfl, rfl⟩ := h.newest hk
 obtain ⟨r1, r2, r3, r4⟩ := h.root
 have hraw : rawC d n (sec d.now k.toNat) k = { d := d, m := List.replicate (pagesF n) 0, table := [], old := [], parts := parts, ep := ep, slot := k, broken := false } := by
  unfold rawC
  rw [r1, r2, rooted_nat h.r]
 rw [r3]
 obtain ⟨c0, hc0⟩ : ∃ c0, rawC d n (sec d.now k.toNat) k = c0 := ⟨_, rfl⟩
 rw [hc0] at hraw ⊢
 obtain ⟨m1, e1, l1, g1⟩ := h.load hd hraw parts.length (Nat.le_refl _)
 have hpl : parts.length = needT old.length := by have := h.r.ro.2.2.2.2.1; rw [needF_T] at this; omega
 have hfull : old.take (116 * parts.length) = old := List.take_of_length_le (by rw [hpl]; unfold needT; omega)
 rw [hfull] at e1
 rw [List.take_length] at g1
 have hcp : c0.parts = parts := by rw [hraw]
 obtain ⟨m2, e2, l2, g2⟩ := h.scan hd (c := { c0 with m := m1, table := old }) ⟨by rw [hraw], by rw [hraw], rfl⟩ ⟨l1, g1⟩ old.length (Nat.le_refl _)
 rw [List.take_length] at g2
 refine ⟨{ d := d, m := m2, table := old, old := old, parts := parts, ep := ep, slot := k, broken := false }, ?_, rfl, rfl, rfl, rfl, rfl, ?_, ?_⟩
 ·unfold C.openF
  rw [hcp, e1, if_neg (by simp)]
  dsimp only
  rw [e2, if_neg (by simp), hraw]
 ·have hrp := h.r.ro
  refine ⟨hd, ha, rfl, hok, l2, ⟨hrp.1, he⟩, h.r.sl, ?_, ?_, ?_, h.oj, h.oj, ?_, fun x hx => ⟨h.dt x hx, h.dt x hx⟩, hpl, fun i x hi _ _ => hi, fun i hi => ?_, fun x hx h0 => ?_, fun x hx h0 => ?_⟩
  ·show ∀ x ∈ old, x = -1 ∨ 0 ≤ x ∧ x < (m2.length : Int); rw [l2]; exact h.oi
  ·show ∀ x ∈ old, x = -1 ∨ 0 ≤ x ∧ x < (m2.length : Int); rw [l2]; exact h.oi
  ·show ∀ x ∈ parts, 0 ≤ x ∧ x < (m2.length : Int); rw [l2]; exact h.pi
  ·intro i j x hi hj h0
   rcases Nat.lt_trichotomy i j with hlt | e | hlt
   ·exact absurd (List.mem_of_getElem? (show (parts.take j)[i]? = some x by rw [List.getElem?_take_of_lt hlt]; exact hi)) (hrp.2.2.2.2.2 j x hj).2.2
   ·exact e
   ·exact absurd (List.mem_of_getElem? (show (parts.take i)[j]? = some x by rw [List.getElem?_take_of_lt hlt]; exact hj)) (hrp.2.2.2.2.2 i x hi).2.2
  ·have hi : i < pagesF n := by rw [← l2]; exact hi
   show m2.getD i 0 = if (i : Int) ∈ parts then 1 else if (i : Int) ∈ old then (if (i : Int) ∈ old then 1 else 3) else if (i : Int) ∈ old then 2 else 0
   rw [g2 i hi]
   by_cases h1 : (i : Int) ∈ parts <;> by_cases h2 : (i : Int) ∈ old <;> simp [h1, h2]
  ·obtain ⟨q, s, q1, q2, q3, q4⟩ := h.ro x hx h0
   rw [upD_eq hd] at q4
   exact ⟨q, s, q1, by show q ≤ ep + 1; omega, q3, q4⟩
  ·obtain ⟨q, s, q1, q2, q3, q4⟩ := h.ro x hx h0
   rw [upD_eq hd] at q4
   exact ⟨q, s, q1, q2, q3, q4⟩
 ·have hab := h.ab
  rw [upD_eq hd] at hab
  unfold C.absF
  simp only [l2, St.mk.injEq, true_and]
  refine ⟨?_, hab, trivial⟩
  rw [← hab]
  unfold oldS
  rw [List.map_map]
  refine List.map_congr_left (fun x hx => ?_)
  unfold C.slotOf
  simp only [Function.comp]
  by_cases h0 : x < 0
  ·rw [if_pos h0, if_pos h0]; rfl
  ·rw [if_neg h0, if_neg h0]
   show some (decide (x ∉ old), _) = some (false, _)
   simp [hx]
end
end Go.Proofs.YtbelcgjbhpjnpaaGreat.Sh

/- the document's store, with empty places behind. -/
namespace Go.Proofs.YtbelcgjbhpjnpaaGreat.Sh
open Go.RowKit Pk Dk Pg
theorem pad_zero (b : St) : b.pad 0 = b := by unfold St.pad; simp
theorem pad_pad (b : St) (j k : Nat) : (b.pad j).pad k = b.pad (j + k) := by unfold St.pad; simp [List.append_assoc, List.replicate_append_replicate]
theorem pad_get {α : Type} (l : List (Option α)) (k i : Nat) : ((l ++ List.replicate k none)[i]?).getD none = (l[i]?).getD none := by
 by_cases h : i < l.length
 ·rw [List.getElem?_append_left h]
 ·rw [List.getElem?_append_right (by omega), List.getElem?_eq_none (l := l) (by omega), List.getElem?_replicate]
  split <;> rfl
theorem pad_at (b : St) (k : Nat) (l : Int) : (b.pad k).at l = b.at l := by
 unfold St.at
 show (if 0 ≤ l then ((b.now ++ List.replicate k none)[l.toNat]?).getD none else none) = _
 rw [pad_get]
theorem pad_fresh (b : St) (k : Nat) : (b.pad k).fresh = b.fresh := by
 unfold St.fresh
 show (b.now ++ List.replicate k none).countP isFresh = _
 rw [List.countP_append, List.countP_replicate]
 simp [isFresh]
theorem pad_kept (b : St) (k : Nat) : (b.pad k).kept = b.kept := rfl
theorem pad_free (b : St) (k : Nat) : (b.pad k).free = b.free := by
 unfold St.free
 rw [pad_fresh, pad_kept]
 rfl
theorem pad_slot (b : St) (k : Nat) : (b.pad k).slot = b.slot := by
 unfold St.slot
 show (b.now ++ List.replicate k none).findIdx Option.isNone = _
 rw [List.findIdx_append]
 split
 ·rfl
 ·rename_i h
  have h1 : b.now.findIdx Option.isNone = b.now.length := by
   have := List.findIdx_le_length (xs := b.now) (p := Option.isNone)
   omega
  cases k with
  | zero => simp [h1]
  | succ k => simp [List.replicate_succ, List.findIdx_cons, h1]
theorem pad_set {α : Type} (l : List (Option α)) (k i : Nat) (u : Option α) (h : i < l.length) : (l ++ List.replicate k none).set i u = l.set i u ++ List.replicate k none := List.set_append_left _ _ h
theorem pad_new (b : St) (k : Nat) (p : List UInt8) : ∃ k', (b.pad k).newF p = ((b.newF p).1.pad k', (b.newF p).2) := by
 unfold St.newF
 rw [pad_slot, pad_free]
 by_cases h1 : 232 < p.length
 ·rw [if_pos h1, if_pos h1]; exact ⟨k, rfl⟩
 rw [if_neg h1, if_neg h1]
 by_cases h2 : 512 ≤ b.slot ∨ b.free = 0
 ·rw [if_pos h2, if_pos h2]; exact ⟨k, rfl⟩
 rw [if_neg h2, if_neg h2]
 have hs : b.slot ≤ b.now.length := List.findIdx_le_length
 by_cases h3 : b.slot = b.now.length
 ·cases k with
  | zero => exact ⟨0, by rw [pad_zero, pad_zero]⟩
  | succ k =>
   refine ⟨k, ?_⟩
   unfold St.pad
   simp only [Prod.mk.injEq, St.mk.injEq, true_and, and_true]
   unfold putS
   rw [if_neg (by simp; omega), if_pos h3, h3, List.set_append_right _ _ (Nat.le_refl _), Nat.sub_self, List.replicate_succ]
   simp
 ·refine ⟨k, ?_⟩
  unfold St.pad
  simp only [Prod.mk.injEq, St.mk.injEq, true_and, and_true]
  unfold putS
  rw [if_neg (by simp; omega), if_neg h3, pad_set _ _ _ _ (by omega)]
theorem at_some_lt {b : St} {l : Int} (h : (b.at l).isSome = true) : 0 ≤ l ∧ l.toNat < b.now.length := by
 unfold St.at at h
 by_cases h0 : 0 ≤ l
 ·rw [if_pos h0] at h
  refine ⟨h0, Nat.lt_of_not_le (fun hle => ?_)⟩
  rw [List.getElem?_eq_none hle] at h
  simp at h
 ·rw [if_neg h0] at h; simp at h
theorem pad_write (b : St) (k : Nat) (l : Int) (p : List UInt8) : (b.pad k).writeF l p = ((b.writeF l p).1.pad k, (b.writeF l p).2) := by
 unfold St.writeF
 rw [pad_at, pad_free]
 by_cases h1 : 232 < p.length
 ·rw [if_pos h1, if_pos h1]
 rw [if_neg h1, if_neg h1]
 by_cases h2 : ¬ (b.at l).isSome = true
 ·rw [if_pos h2, if_pos h2]
 rw [if_neg h2, if_neg h2]
 by_cases h3 : isFresh (b.at l) = false ∧ b.free = 0
 ·rw [if_pos h3, if_pos h3]
 rw [if_neg h3, if_neg h3]
 unfold St.pad
 simp only [Prod.mk.injEq, St.mk.injEq, true_and, and_true]
 exact pad_set _ _ _ _ (at_some_lt (Decidable.not_not.1 h2)).2
theorem pad_drop (b : St) (k : Nat) (l : Int) : (b.pad k).dropF l = ((b.dropF l).1.pad k, (b.dropF l).2) := by
 unfold St.dropF
 rw [pad_at]
 by_cases h2 : (b.at l).isSome = true
 ·rw [if_pos h2, if_pos h2]
  unfold St.pad
  simp only [Prod.mk.injEq, St.mk.injEq, true_and, and_true]
  exact pad_set _ _ _ _ (at_some_lt h2).2
 ·rw [if_neg h2, if_neg h2]
theorem trimN_succ (l : List Sl14) (k : Nat) : trimN l (k + 1) = if ((l[k]?).getD none).isSome then k + 1 else trimN l k := rfl
theorem pgsS_succ (l : List Sl14) (k : Nat) : pgsS l (k + 1) = pgsS l k ++ if ((l[k]?).getD none).isSome then [(k : Int)] else [] := rfl
theorem trimN_app {α : Type} (f : List (Option (Bool × List UInt8)) → α) (l : List Sl14) (k : Nat) : trimN (l ++ List.replicate k none) (l.length + k) = trimN l l.length := by
 have h1 : ∀ j, j ≤ l.length → trimN (l ++ List.replicate k none) j = trimN l j := by
  intro j
  induction j with
  | zero => intro _; rfl
  | succ j ih =>
   intro hj
   unfold trimN
   rw [pad_get, ih (by omega)]
 have h2 : ∀ j, trimN (l ++ List.replicate k none) (l.length + j) = trimN (l ++ List.replicate k none) l.length := by
  intro j
  induction j with
  | zero => rfl
  | succ j ih =>
   rw [show l.length + (j + 1) = (l.length + j) + 1 by omega, trimN_succ, pad_get, List.getElem?_eq_none (by omega), if_neg (by simp)]
   exact ih
 rw [h2, h1 _ (Nat.le_refl _)]
theorem pad_next (b : St) (k : Nat) : (b.pad k).nextF = b.nextF := by
 unfold St.nextF
 show ((b.now ++ List.replicate k none).take (trimN (b.now ++ List.replicate k none) (b.now ++ List.replicate k none).length)).map _ = _
 have hl : (b.now ++ List.replicate k (none : Sl14)).length = b.now.length + k := by simp
 have h2 := trimN_app (fun x => x) b.now k
 rw [hl, h2]
 have := trimN_le b.now b.now.length
 rw [List.take_append_of_le_length this]
theorem pad_leaving (b : St) (k : Nat) : (b.pad k).leaving = b.leaving := by
 unfold St.leaving
 show leavTo (b.now ++ List.replicate k none) (oldS b.old) b.old.length = _
 have : ∀ j, leavTo (b.now ++ List.replicate k none) (oldS b.old) j = leavTo b.now (oldS b.old) j := by
  intro j
  induction j with
  | zero => rfl
  | succ j ih =>
   unfold leavTo leavB
   rw [ih, pad_get]
 exact this _
theorem pad_pgs (l : List Sl14) (k : Nat) : pgsS (l ++ List.replicate k none) (l.length + k) = pgsS l l.length := by
 have h1 : ∀ j, j ≤ l.length → pgsS (l ++ List.replicate k none) j = pgsS l j := by
  intro j
  induction j with
  | zero => intro _; rfl
  | succ j ih =>
   intro hj
   unfold pgsS
   rw [pad_get, ih (by omega)]
 have h2 : ∀ j, pgsS (l ++ List.replicate k none) (l.length + j) = pgsS (l ++ List.replicate k none) l.length := by
  intro j
  induction j with
  | zero => rfl
  | succ j ih =>
   rw [show l.length + (j + 1) = (l.length + j) + 1 by omega, pgsS_succ, pad_get, List.getElem?_eq_none (by omega), ih]
   simp
 rw [h2, h1 _ (Nat.le_refl _)]
theorem leav_abs {c : C} {n : Nat} (g : Good c n) : ∀ k, k ≤ c.old.length → leavTo (c.absF n).now (oldS (c.absF n).old) k = (c.old.take k).countP (fun x => decide (0 ≤ x) && decide (x ∉ c.table))
 | 0, _ => rfl
 | k + 1, h => by
  have ih := leav_abs g k (by omega)
  obtain ⟨x, hx⟩ : ∃ x, c.old[k]? = some x := ⟨_, List.getElem?_eq_getElem (by omega)⟩
  have hxk : c.old[k] = x := (List.getElem?_eq_some_iff.1 hx).2
  unfold leavTo
  rw [ih, List.take_succ_eq_append_getElem (by omega), List.countP_append, hxk, List.countP_singleton]
  congr 1
  have e1 : ((oldS (c.absF n).old)[k]?).getD none = if x < 0 then none else some (false, (preadF c.d n x).1.s) := by
   unfold oldS C.absF
   simp only [List.getElem?_map, hx, Option.map_some, Option.getD_some]
   split <;> rfl
  have e2 : ((c.absF n).now[k]?).getD none = ((c.table[k]?).map (c.slotOf n)).getD none := by
   unfold C.absF
   rw [List.getElem?_map]
  have key : leavB (c.absF n).now (oldS (c.absF n).old) k = (decide (0 ≤ x) && decide (x ∉ c.table)) := by
   unfold leavB
   rw [e1, e2]
   by_cases h0 : x < 0
   ·rw [if_pos h0]; simp; omega
   ·rw [if_neg h0]
    simp only [Option.isSome_some, Bool.true_and]
    rw [show decide (0 ≤ x) = true by simpa using (show 0 ≤ x by omega), Bool.true_and]
    by_cases ht : x ∈ c.table
    ·obtain ⟨j, hj⟩ := List.getElem?_of_mem ht
     have := g.sm j x hj (by omega) (List.mem_of_getElem? hx)
     have hjk := g.oj j k x this hx (by omega)
     subst hjk
     rw [hj]
     simp [C.slotOf, h0, isFresh, List.mem_of_getElem? hx, ht]
    ·simp only [ht, not_false_eq_true, decide_true]
     cases hk : c.table[k]? with
     | none => simp
     | some y =>
      by_cases hy : y < 0
      ·simp [C.slotOf, hy]
      ·by_cases hyo : y ∈ c.old
       ·have := g.sm k y hk (by omega) hyo
        rw [hx] at this
        injection this with this
        subst this
        exact absurd (List.mem_of_getElem? hk) ht
       ·simp [C.slotOf, hy, isFresh, hyo]
  rw [key]
/-- what the program counts is what the document counts -/
theorem counts {c : C} {n : Nat} (g : Good c n) : (Fm.listF c.m 0).length = (c.absF n).free ∧ (Fm.listF c.m 2).length = (c.absF n).fresh ∧ (Fm.listF c.m 1).length + (Fm.listF c.m 3).length = (c.absF n).kept ∧ (Fm.listF c.m 3).length = (c.absF n).leaving := by
 have hp : c.parts.Nodup := inj_nodup g.pj (fun x hx => (g.pi x hx).1)
 refine ⟨(free_count g).1, ?_, ?_, ?_⟩
 ·have hFl : ((ids c.table).filter (fun x => decide (x ∉ c.old))).length = (c.absF n).fresh := by
   unfold St.fresh C.absF ids
   rw [List.filter_filter, ← List.countP_eq_length_filter, List.countP_map]
   apply List.countP_congr
   intro x hx
   simp only [Function.comp, C.slotOf]
   by_cases h : x < 0
   ·rw [if_pos h]; simp [isFresh]; omega
   ·rw [if_neg h]; simp [isFresh]; omega
  rw [← hFl]
  refine nodup_eq (nodup_listF _ _) ((ids_nodup g.tj).sublist List.filter_sublist) (fun x => ?_)
  rw [mem_listF, List.mem_filter, mem_ids]
  constructor
  ·rintro ⟨i, rfl, hi, h0⟩
   rw [g.md i hi] at h0
   unfold kindOf at h0
   split at h0
   ·omega
   ·split at h0
    ·split at h0 <;> omega
    ·split at h0
     ·exact ⟨⟨by assumption, by omega⟩, by simpa⟩
     ·omega
  ·rintro ⟨⟨ht, h0⟩, ho⟩
   have ho : x ∉ c.old := by simpa using ho
   have := g.ti x ht
   refine ⟨x.toNat, by omega, by omega, ?_⟩
   rw [g.md _ (by omega), show ((x.toNat : Nat) : Int) = x by omega]
   unfold kindOf
   rw [if_neg (fun h => (g.dt x h).1 ht), if_neg ho, if_pos ht]
 ·have hKl : (c.parts ++ ids c.old).length = (c.absF n).kept := by
   unfold St.kept C.absF ids
   rw [List.length_append, g.pl, ← List.countP_eq_length_filter, List.countP_map, List.length_map]
   have : c.old.countP (fun x => decide (0 ≤ x)) = c.old.countP (Option.isSome ∘ fun x => if x < 0 then none else some (preadF c.d n x).1.s) := by
    apply List.countP_congr
    intro x hx
    simp only [Function.comp]
    by_cases h : x < 0
    ·rw [if_pos h]; simp; omega
    ·rw [if_neg h]; simp; omega
   omega
  rw [← hKl, ← List.length_append]
  refine nodup_eq ?_ ?_ (fun x => ?_)
  ·rw [List.nodup_append]
   refine ⟨nodup_listF _ _, nodup_listF _ _, fun a ha b hb e => ?_⟩
   subst e
   obtain ⟨i, rfl, hi, h0⟩ := mem_listF.1 ha
   obtain ⟨j, e, hj, h1⟩ := mem_listF.1 hb
   obtain rfl : i = j := by omega
   omega
  ·rw [List.nodup_append]
   refine ⟨hp, ids_nodup g.oj, fun a ha b hb e => ?_⟩
   subst e
   exact (g.dt a ha).2 (mem_ids.1 hb).1
  ·rw [List.mem_append, List.mem_append, mem_listF, mem_listF, mem_ids]
   constructor
   ·rintro (⟨i, rfl, hi, h0⟩ | ⟨i, rfl, hi, h0⟩)
    ·rw [g.md i hi] at h0
     unfold kindOf at h0
     by_cases h1 : (i : Int) ∈ c.parts
     ·exact .inl h1
     ·rw [if_neg h1] at h0
      by_cases h2 : (i : Int) ∈ c.old
      ·exact .inr ⟨h2, by omega⟩
      ·rw [if_neg h2] at h0
       split at h0 <;> omega
    ·rw [g.md i hi] at h0
     unfold kindOf at h0
     by_cases h1 : (i : Int) ∈ c.parts
     ·exact .inl h1
     ·rw [if_neg h1] at h0
      by_cases h2 : (i : Int) ∈ c.old
      ·exact .inr ⟨h2, by omega⟩
      ·rw [if_neg h2] at h0
       split at h0 <;> omega
   ·rintro (h1 | ⟨h1, h0⟩)
    ·have := g.pi x h1
     refine .inl ⟨x.toNat, by omega, by omega, ?_⟩
     rw [g.md _ (by omega), show ((x.toNat : Nat) : Int) = x by omega]
     unfold kindOf
     rw [if_pos h1]
    ·have := g.oi x h1
     by_cases ht : x ∈ c.table
     ·refine .inl ⟨x.toNat, by omega, by omega, ?_⟩
      rw [g.md _ (by omega), show ((x.toNat : Nat) : Int) = x by omega]
      unfold kindOf
      rw [if_neg (fun h => (g.dt x h).2 h1), if_pos h1, if_pos ht]
     ·refine .inr ⟨x.toNat, by omega, by omega, ?_⟩
      rw [g.md _ (by omega), show ((x.toNat : Nat) : Int) = x by omega]
      unfold kindOf
      rw [if_neg (fun h => (g.dt x h).2 h1), if_pos h1, if_neg ht]
 ·have hl : (c.absF n).leaving = ((ids c.old).filter (fun x => decide (x ∉ c.table))).length := by
   have hol : (c.absF n).old.length = c.old.length := by unfold C.absF; simp
   unfold St.leaving
   rw [hol, leav_abs g _ (Nat.le_refl _), List.take_length]
   unfold ids
   rw [List.filter_filter, ← List.countP_eq_length_filter]
   apply List.countP_congr
   intro x _
   simp [and_comm]
  rw [hl]
  refine nodup_eq (nodup_listF _ _) ((ids_nodup g.oj).sublist List.filter_sublist) (fun x => ?_)
  rw [mem_listF, List.mem_filter, mem_ids]
  constructor
  ·rintro ⟨i, rfl, hi, h0⟩
   rw [g.md i hi] at h0
   unfold kindOf at h0
   split at h0
   ·omega
   ·split at h0
    ·split at h0
     ·omega
     ·exact ⟨⟨by assumption, by omega⟩, by simpa⟩
    ·split at h0 <;> omega
  ·rintro ⟨⟨ht, h0⟩, ho⟩
   have ho : x ∉ c.table := by simpa using ho
   have := g.oi x ht
   refine ⟨x.toNat, by omega, by omega, ?_⟩
   rw [g.md _ (by omega), show ((x.toNat : Nat) : Int) = x by omega]
   unfold kindOf
   rw [if_neg (fun h => (g.dt x h).2 ht), if_pos ht, if_neg ho]
end Go.Proofs.YtbelcgjbhpjnpaaGreat.Sh

/- the store on a disk that is armed: it goes down, or all is as if it were not armed; what is left behind a crash. -/
namespace Go.Proofs.YtbelcgjbhpjnpaaGreat.Sh
open Go.RowKit Pk Dk Pg
def C.armed (c : C) (a : Int) : C := c.on (arm c.d a)
theorem calm_arm {n : Nat} {P : Nat → Prop} (d : D) (a : Int) : Calm n P d (arm d a) := fun _ _ _ => ⟨rfl, id⟩
/-- a call of the store: its disk goes down, with nothing lost that is kept, or all is as if it were not armed -/
def SimC (c : C) (n : Nat) (a : Int) {α : Type} (r r' : C × α) : Prop :=
 (1 ≤ a ∧ r'.1.d.down = true ∧ Calm n (Kept c.parts c.old) c.d r'.1.d) ∨ ∃ a', 0 ≤ a' ∧ a' ≤ a ∧ r' = (r.1.armed a', r.2)
theorem armed_def (c : C) (a : Int) : c.armed a = { c with d := arm c.d a } := rfl
theorem fresh_sim {c : C} {n : Nat} (g : Good c n) {a : Int} (ha : 0 ≤ a) (p : List UInt8) :
  (1 ≤ a ∧ ((c.armed a).freshF n p).1.d.down = true ∧ ((c.armed a).freshF n p).2.2 ≠ 0) ∨ ∃ a', 0 ≤ a' ∧ a' ≤ a ∧ (c.armed a).freshF n p = ((c.freshF n p).1.armed a', (c.freshF n p).2) := by
 unfold C.freshF
 have e1 : Fm.takeF (c.armed a).m = Fm.takeF c.m := rfl
 have e2 : (c.armed a).d = arm c.d a := rfl
 have e3 : (c.armed a).ep = c.ep := rfl
 rw [e1, e2, e3]
 by_cases h1 : (Fm.takeF c.m).2.2 ≠ 0
 ·rw [if_pos h1, if_pos h1]
  exact .inr ⟨a, ha, Int.le_refl _, rfl⟩
 rw [if_neg h1, if_neg h1]
 rcases pwrite_arm g.up g.arm ha n (Fm.takeF c.m).2.1 (c.ep + 1) 2 p with ⟨h0, h2, h3⟩ | ⟨a', h2, h3, h4⟩
 ·rw [if_pos (by rw [h3]; decide)]
  refine .inl ⟨h0, h2, ?_⟩
  show (pwriteF (arm c.d a) n _ _ _ _).2 ≠ 0
  rw [h3]; decide
 ·rw [h4]
  dsimp only
  by_cases h5 : (pwriteF c.d n (Fm.takeF c.m).2.1 (c.ep + 1) 2 p).2 ≠ 0
  ·rw [if_pos h5, if_pos h5]
   exact .inr ⟨a', h2, h3, rfl⟩
  ·rw [if_neg h5, if_neg h5]
   exact .inr ⟨a', h2, h3, rfl⟩
theorem new_sim {c : C} {n : Nat} (g : Good c n) {a : Int} (ha : 0 ≤ a) (p : List UInt8) : SimC c n a (c.newF n p) ((c.armed a).newF n p) := by
 have hcalm := (calm_arm (P := Kept c.parts c.old) (n := n) c.d a).trans (new_on g (arm c.d a) p (arm_okD g.ok ha))
 have hcalm : Calm n (Kept c.parts c.old) c.d ((c.armed a).newF n p).1.d := hcalm
 by_cases hd : 1 ≤ a ∧ ((c.armed a).newF n p).1.d.down = true
 ·exact .inl ⟨hd.1, hd.2, hcalm⟩
 ·refine .inr ?_
  unfold C.newF at hd ⊢
  have e1 : (c.armed a).broken = c.broken := rfl
  have e2 : (c.armed a).table = c.table := rfl
  rw [e1, e2] at hd ⊢
  by_cases h1 : c.broken = true
  ·rw [if_pos h1, if_pos h1]; exact ⟨a, ha, Int.le_refl _, rfl⟩
  rw [if_neg h1] at hd ⊢
  rw [if_neg h1]
  by_cases h2 : 232 < p.length
  ·rw [if_pos h2, if_pos h2]; exact ⟨a, ha, Int.le_refl _, rfl⟩
  rw [if_neg h2] at hd ⊢
  rw [if_neg h2]
  by_cases h3 : 512 ≤ slotF c.table
  ·rw [if_pos h3, if_pos h3]; exact ⟨a, ha, Int.le_refl _, rfl⟩
  rw [if_neg h3] at hd ⊢
  rw [if_neg h3]
  rcases fresh_sim g ha p with ⟨f1, f2, f3⟩ | ⟨a', f1, f2, f3⟩
  ·rw [if_pos f3] at hd
   exact absurd ⟨f1, f2⟩ hd
  ·rw [f3]
   dsimp only
   by_cases h4 : (c.freshF n p).2.2 ≠ 0
   ·rw [if_pos h4, if_pos h4]; exact ⟨a', f1, f2, rfl⟩
   ·rw [if_neg h4, if_neg h4]; exact ⟨a', f1, f2, rfl⟩
theorem write_sim {c : C} {n : Nat} (g : Good c n) {a : Int} (ha : 0 ≤ a) (l : Int) (p : List UInt8) : SimC c n a (c.writeF n l p) ((c.armed a).writeF n l p) := by
 have hcalm := (calm_arm (P := Kept c.parts c.old) (n := n) c.d a).trans (write_on g (arm c.d a) l p (arm_okD g.ok ha))
 have hcalm : Calm n (Kept c.parts c.old) c.d ((c.armed a).writeF n l p).1.d := hcalm
 by_cases hd : 1 ≤ a ∧ ((c.armed a).writeF n l p).1.d.down = true
 ·exact .inl ⟨hd.1, hd.2, hcalm⟩
 ·refine .inr ?_
  unfold C.writeF at hd ⊢
  have e1 : (c.armed a).broken = c.broken := rfl
  have e2 : (c.armed a).table = c.table := rfl
  have e3 : (c.armed a).m = c.m := rfl
  have e4 : (c.armed a).atF l = c.atF l := rfl
  have e5 : (c.armed a).d = arm c.d a := rfl
  have e6 : (c.armed a).ep = c.ep := rfl
  rw [e1, e2, e3, e4, e5, e6] at hd ⊢
  by_cases h1 : c.broken = true
  ·rw [if_pos h1, if_pos h1]; exact ⟨a, ha, Int.le_refl _, rfl⟩
  rw [if_neg h1] at hd ⊢
  rw [if_neg h1]
  by_cases h2 : 232 < p.length
  ·rw [if_pos h2, if_pos h2]; exact ⟨a, ha, Int.le_refl _, rfl⟩
  rw [if_neg h2] at hd ⊢
  rw [if_neg h2]
  by_cases h3 : c.atF l ≠ 0
  ·rw [if_pos h3, if_pos h3]; exact ⟨a, ha, Int.le_refl _, rfl⟩
  rw [if_neg h3] at hd ⊢
  rw [if_neg h3]
  by_cases h4 : Fm.freshF c.m (c.table.getD l.toNat 0) = true
  ·rw [if_pos h4] at hd ⊢
   rw [if_pos h4]
   rcases pwrite_arm g.up g.arm ha n (c.table.getD l.toNat 0) (c.ep + 1) 2 p with ⟨f0, f1, f2⟩ | ⟨a', f1, f2, f3⟩
   ·exact absurd ⟨f0, f1⟩ hd
   ·rw [f3]; exact ⟨a', f1, f2, rfl⟩
  ·rw [if_neg h4] at hd ⊢
   rw [if_neg h4]
   rcases fresh_sim g ha p with ⟨f1, f2, f3⟩ | ⟨a', f1, f2, f3⟩
   ·rw [if_pos f3] at hd
    exact absurd ⟨f1, f2⟩ hd
   ·rw [f3]
    dsimp only
    by_cases h5 : (c.freshF n p).2.2 ≠ 0
    ·rw [if_pos h5, if_pos h5]; exact ⟨a', f1, f2, rfl⟩
    ·rw [if_neg h5, if_neg h5]; exact ⟨a', f1, f2, rfl⟩
theorem layP_calm {c : C} {n : Nat} (hok : c.d.Ok n) (P : List Int) : ∀ i, i ≤ P.length → (c.layP n P i).1.Ok n ∧ Calm n (fun j => ¬ ∃ x ∈ P, 2 + 4 * x.toNat ≤ j ∧ j < 2 + 4 * x.toNat + 4) c.d (c.layP n P i).1
 | 0, _ => ⟨hok, .refl _⟩
 | i + 1, hi => by
  obtain ⟨h1, h2⟩ := layP_calm hok P i (by omega)
  rw [layP_succ]
  split
  ·exact ⟨h1, h2⟩
  ·refine ⟨pwrite_okD h1 _ _ _ _, h2.trans (calm_pwrite h1 _ _ _ _ (fun j a b hn => hn ⟨P.getD i 0, ?_, a, b⟩))⟩
   simp only [List.getD, List.getElem?_eq_getElem (show i < P.length by omega), Option.getD_some]
   exact List.getElem_mem _
theorem layP_sim {c : C} {n : Nat} (hd : c.d.down = false) (h0 : c.d.armed = 0) {a : Int} (ha : 0 ≤ a) (P : List Int) : ∀ i, ((c.layP n P i).1.down = false ∧ (c.layP n P i).1.armed = 0) ∧ Sim (c.layP n P i) ((c.armed a).layP n P i) a
 | 0 => ⟨⟨hd, h0⟩, .inr ⟨a, ha, Int.le_refl _, rfl⟩⟩
 | i + 1 => by
  obtain ⟨⟨u1, u2⟩, ih⟩ := layP_sim (n := n) hd h0 ha P i
  rw [layP_succ, layP_succ]
  have e1 : (c.armed a).ep = c.ep := rfl
  have e2 : (c.armed a).table = c.table := rfl
  rw [e1, e2]
  refine ⟨?_, ?_⟩
  ·split
   ·exact ⟨u1, u2⟩
   ·exact pwrite_up u1 u2 _ _ _ _ _
  ·rcases ih with ⟨f0, f1, f2⟩ | ⟨a', f1, f2, f3⟩
   ·rw [if_pos (show ((c.armed a).layP n P i).2 ≠ 0 by rw [f2]; decide)]
    exact .inl ⟨f0, f1, f2⟩
   ·rw [f3]
    dsimp only
    by_cases hz : (c.layP n P i).2 ≠ 0
    ·rw [if_pos hz, if_pos hz]; exact .inr ⟨a', f1, f2, rfl⟩
    ·rw [if_neg hz, if_neg hz]
     rcases pwrite_arm u1 u2 f1 n (P.getD i 0) (c.ep + 1) 1 (Rt.partF (Rt.segF c.table i)) with ⟨g0, g1, g2⟩ | ⟨a2, g1, g2, g3⟩
     ·exact .inl ⟨by omega, g1, g2⟩
     ·exact .inr ⟨a2, g1, by omega, g3⟩
/-- down while the root was laid: all else is as behind the commit -/
def Torn (n s : Nat) (o : List UInt8) (u d' : D) : Prop := d'.down = true ∧ (∀ j, j < n → sec d'.now j = sec u.now j ∧ (j ≠ s → d'.loose.getD j false = false)) ∧ (d'.loose.getD s false = true ∧ sec d'.old s = o)
/-- a commit's laying on a disk that is armed -/
theorem layF_sim {c : C} {n : Nat} (hd : c.d.down = false) (h0 : c.d.armed = 0) (hok : c.d.Ok n) {a : Int} (ha : 0 ≤ a) {P : List Nat} (hP : (Rt.natI P).Nodup) (hr : ∀ x ∈ Rt.natI P, ∃ k : Nat, x = k ∧ k < manyF n) (he : 0 ≤ c.ep ∧ c.ep < 1099511627776) (hn : 2 ≤ n) (hs : c.slot = 0 ∨ c.slot = 1) (h5 : P.length ≤ 5) :
  (1 ≤ a ∧ ((c.armed a).layF n P).1.down = true ∧ ((c.armed a).layF n P).2 ≠ 0 ∧ ((c.armed a).layF n P).1.Ok n ∧ (Calm n (fun j => ¬ InP (Rt.natI P) j) c.d ((c.armed a).layF n P).1 ∨ Torn n (1 - c.slot).toNat (sec c.d.now (1 - c.slot).toNat) (c.layF n P).1 ((c.armed a).layF n P).1)) ∨
   ∃ a', 0 ≤ a' ∧ a' ≤ a ∧ (c.armed a).layF n P = (arm (c.layF n P).1 a', (c.layF n P).2) := by
 obtain ⟨h1, h2, h3, h4, h6, h7, h8⟩ := layP_good hd h0 hok hP hr he (Rt.natI P).length (Nat.le_refl _)
 have eL : (Rt.natI P).length = P.length := by simp [Rt.natI]
 rw [eL] at h1 h2 h3 h4 h6 h7 h8
 have hlc := (layP_calm (c := c.armed a) (n := n) (arm_okD hok ha) (Rt.natI P) P.length (by omega))
 obtain ⟨okA, calmA⟩ := hlc
 have hl := (layP_sim (n := n) hd h0 ha (Rt.natI P) P.length).2
 have hcA : Calm n (fun j => ¬ InP (Rt.natI P) j) c.d ((c.armed a).layP n (Rt.natI P) P.length).1 :=
  (calm_arm c.d a).trans (calmA.mono (fun j _ hj => by
   rintro ⟨x, hx, h1, h2⟩
   obtain ⟨k, rfl, _⟩ := hr x hx
   exact hj ⟨k, hx, by omega, by omega⟩))
 unfold C.layF
 have e1 : (c.armed a).ep = c.ep := rfl
 have e2 : (c.armed a).table = c.table := rfl
 have e3 : (c.armed a).slot = c.slot := rfl
 rw [e1, e2, e3]
 rcases hl with ⟨f0, f1, f2⟩ | ⟨a1, f1, f2, f3⟩
 ·rw [if_pos (show ((c.armed a).layP n (Rt.natI P) P.length).2 ≠ 0 by rw [f2]; decide)]
  exact .inl ⟨f0, f1, by rw [f2]; decide, okA, .inl hcA⟩
 rw [f3] at okA hcA ⊢
 obtain ⟨d1, hd1⟩ : ∃ d1, (c.layP n (Rt.natI P) P.length) = (d1, 0) := ⟨_, by rw [← h1]⟩
 rw [hd1] at h1 h2 h3 h4 h6 h7 h8 okA hcA ⊢
 dsimp only at h1 h2 h3 h4 h6 h7 h8 okA hcA ⊢
 rw [if_neg (show ¬ (0 : Int) ≠ 0 by decide), if_neg (show ¬ (0 : Int) ≠ 0 by decide)]
 obtain ⟨s1, s2, s3, s4⟩ := sync_fine h2 h3
 rw [if_neg (show ¬ d1.syncF.2 ≠ 0 by rw [s1]; decide)]
 rcases sync_arm h2 h3 f1 with ⟨g0, g1, g2⟩ | ⟨a2, g1, g2, g3⟩
 ·rw [if_pos (show (arm d1 a1).syncF.2 ≠ 0 by rw [g2]; decide)]
  exact .inl ⟨by omega, g1, by rw [g2]; decide, okA.sync, .inl (hcA.trans calm_sync)⟩
 rw [g3]
 dsimp only
 rw [if_neg (show ¬ d1.syncF.2 ≠ 0 by rw [s1]; decide)]
 have s6 : d1.syncF.1.Ok n := h4.sync
 have s7 := sync_loose s1
 obtain ⟨sO, hsO⟩ : ∃ sO, d1.syncF.1 = sO := ⟨_, rfl⟩
 have hsn : (1 - c.slot).toNat < n := by omega
 have hsI : (1 - c.slot : Int) = (((1 - c.slot).toNat : Nat) : Int) := by omega
 rw [hsI, show ((((1 - c.slot).toNat : Nat) : Int)).toNat = (1 - c.slot).toNat by omega]
 obtain ⟨s, hsd⟩ : ∃ s, s = (1 - c.slot).toNat := ⟨_, rfl⟩
 rw [← hsd] at hsn ⊢
 have hrl := Rt.rootL_length (c.ep + 1) c.table.length P h5
 have hold : sec d1.syncF.1.now s = sec c.d.now s := by
  rw [s4]
  exact (h8 s hsn (fun ⟨x, hx, h1, h2⟩ => by omega)).1
 generalize d1.syncF.1 = d2 at *
 generalize Rt.rootL (c.ep + 1) c.table.length P = rt at *
 obtain ⟨w1, w2, w3⟩ := write_fine (n := n) s2 s3 hsn rt
 have w4 := write_now s6 s hsn _ w1
 have w6 := s6.write (s : Int) rt
 obtain ⟨o1, o2⟩ := write_old (d := d2) s6 hsn s2 (s7 s) rt
 have wl : ∀ j, j < n → j ≠ s → (d2.writeF n (s : Int) rt).1.loose.getD j false = false := fun j hj hne => ((calm_write (P := fun j => j ≠ s) s6 (s : Int) rt (fun i e => by simp; omega)) j hj hne).2 (s7 j)
 have wl2 : (d2.writeF n (s : Int) rt).1.loose.getD s false = true := by
  have h0 : d2.atF n s = 0 := by rw [atF_val d2 n s hsn]; simp [s2]
  unfold D.writeF
  rw [if_pos h0, show ((s : Nat) : Int).toNat = s by omega]
  obtain ⟨_, c2, _⟩ := count_same (d2.putF s rt)
  rw [c2]
  show (d2.keepF s).loose.getD s false = true
  unfold D.keepF
  rw [if_neg (by rw [s7]; simp)]
  show (d2.loose.set s true).getD s false = true
  rw [getD_setB, if_pos ⟨rfl, by rw [s6.loose]; exact hsn⟩]
 rw [if_neg (show ¬ (d2.writeF n (s : Int) rt).2 ≠ 0 by rw [w1]; decide)]
 obtain ⟨v1, v2, v3, v4⟩ := sync_fine w2 w3
 rcases write_arm s2 s3 g1 n (s : Int) rt with ⟨k0, k1, k2⟩ | ⟨a3, k1, k2, k3⟩
 ·rw [if_pos (show ((arm d2 a2).writeF n (s : Int) rt).2 ≠ 0 by rw [k2]; decide)]
  have hput : ((arm d2 a2).writeF n (s : Int) rt).1.now = (d2.writeF n (s : Int) rt).1.now ∧ ((arm d2 a2).writeF n (s : Int) rt).1.loose = (d2.writeF n (s : Int) rt).1.loose ∧ ((arm d2 a2).writeF n (s : Int) rt).1.old = (d2.writeF n (s : Int) rt).1.old := by
   unfold D.writeF
   rw [show (arm d2 a2).atF n s = d2.atF n s from rfl]
   have h0 : d2.atF n s = 0 := by rw [atF_val d2 n s hsn]; simp [s2]
   rw [if_pos h0, if_pos h0, put_arm]
   obtain ⟨p1, p2, p3⟩ := count_same (arm (d2.putF ((s : Nat) : Int).toNat rt) a2)
   obtain ⟨q1, q2, q3⟩ := count_same (d2.putF ((s : Nat) : Int).toNat rt)
   exact ⟨by rw [p1, q1]; rfl, by rw [p2, q2]; rfl, by rw [p3, q3]; rfl⟩
  refine .inl ⟨by omega, k1, by rw [k2]; decide, (arm_okD s6 g1).write _ _, .inr ⟨k1, fun j hj => ⟨by rw [hput.1, v4], fun hne => by rw [hput.2.1]; exact wl j hj hne⟩, by rw [hput.2.1]; exact wl2, by rw [hput.2.2, o2]; exact hold⟩⟩
 rw [k3]
 dsimp only
 rw [if_neg (show ¬ (d2.writeF n (s : Int) rt).2 ≠ 0 by rw [w1]; decide)]
 rcases sync_arm w2 w3 k1 with ⟨m0, m1, m2⟩ | ⟨a4, m1, m2, m3⟩
 ·have hput : (arm (d2.writeF n (s : Int) rt).1 a3).syncF.1.now = (d2.writeF n (s : Int) rt).1.now ∧ (arm (d2.writeF n (s : Int) rt).1 a3).syncF.1.loose = (d2.writeF n (s : Int) rt).1.loose ∧ (arm (d2.writeF n (s : Int) rt).1 a3).syncF.1.old = (d2.writeF n (s : Int) rt).1.old := by
   have m2' := m2
   unfold D.syncF at m2 ⊢
   have hup : ¬ (arm (d2.writeF n (s : Int) rt).1 a3).down = true := by show ¬ (d2.writeF n (s : Int) rt).1.down = true; rw [w2]; simp
   rw [if_neg hup] at m2 ⊢
   by_cases hc : (arm (d2.writeF n (s : Int) rt).1 a3).countF.2 = 0
   ·rw [if_pos hc] at m2; cases m2
   ·rw [if_neg hc]
    obtain ⟨p1, p2, p3⟩ := count_same (arm (d2.writeF n (s : Int) rt).1 a3)
    exact ⟨p1, p2, p3⟩
  refine .inl ⟨by omega, m1, by rw [m2]; decide, (arm_okD w6 k1).sync, .inr ⟨m1, fun j hj => ⟨by rw [hput.1, v4], fun hne => by rw [hput.2.1]; exact wl j hj hne⟩, by rw [hput.2.1]; exact wl2, by rw [hput.2.2, o2]; exact hold⟩⟩
 ·exact .inr ⟨a4, m1, by omega, m3⟩
end Go.Proofs.YtbelcgjbhpjnpaaGreat.Sh

/- the store on a disk that is armed: a commit; what is left behind a crash. -/
namespace Go.Proofs.YtbelcgjbhpjnpaaGreat.Sh
open Go.RowKit Pk Dk Pg
theorem crash_loose0 (C : Cr) {d : D} {n : Nat} (h : d.Ok n) (j : Nat) : (d.crashF C n).loose.getD j false = false := by
 have key : ∀ i, (D.crashTo C d i).1.loose.length = d.loose.length ∧ ∀ j, (D.crashTo C d i).1.loose.getD j false = if j < i then false else d.loose.getD j false := by
  intro i
  induction i with
  | zero => exact ⟨rfl, fun j => by simp [D.crashTo]⟩
  | succ i ih =>
   obtain ⟨h1, h2⟩ := ih
   simp only [D.crashTo]
   cases hb : (D.crashTo C d i).1.loose.getD i false
   ·simp only [Bool.false_eq_true, if_false]
    refine ⟨h1, fun j => ?_⟩
    rw [h2]
    by_cases hj : j < i
    ·rw [if_pos hj, if_pos (by omega)]
    ·rw [if_neg hj]
     by_cases hji : j = i
     ·subst hji
      rw [if_pos (by omega)]
      rw [h2, if_neg (by omega)] at hb
      exact hb
     ·rw [if_neg (by omega)]
   ·simp only [if_true]
    refine ⟨by show (List.set _ _ _).length = _; rw [List.length_set]; exact h1, fun j => ?_⟩
    show (List.set _ _ _).getD _ _ = _
    rw [getD_setB, h2]
    by_cases hji : i = j
    ·subst hji
     rw [if_pos (show i < i + 1 by omega)]
     split
     ·rfl
     ·rename_i h3
      rw [if_neg (by omega)]
      have : ¬ i < (D.crashTo C d i).1.loose.length := fun h4 => h3 ⟨rfl, h4⟩
      simp only [List.getD]
      rw [List.getElem?_eq_none (by rw [h1] at this; omega)]; rfl
    ·rw [if_neg (by omega)]
     by_cases hj : j < i
     ·rw [if_pos hj, if_pos (by omega)]
     ·rw [if_neg hj, if_neg (by omega)]
 have := (key n).2 j
 show (D.crashTo C d n).1.loose.getD j false = false
 rw [this]
 by_cases hj : j < n
 ·rw [if_pos hj]
 ·rw [if_neg hj]
  simp only [List.getD]
  rw [List.getElem?_eq_none (by rw [h.loose]; omega)]; rfl
/-- what is not loose is there behind a crash -/
theorem crash_calm (C : Cr) {d : D} {n : Nat} (h : d.Ok n) : Calm n (fun j => d.loose.getD j false = false) d (d.crashF C n) := by
 intro j hj hp
 obtain ⟨k, _, e⟩ := crash_sec h C j hj
 rw [if_neg (by rw [hp]; simp)] at e
 exact ⟨e, fun _ => crash_loose0 C h j⟩
section
variable {d d' : D} {n : Nat} {ep slot : Int} {old parts : List Int} {o : List (Option (List UInt8))}
theorem OnDisk.crash (h : OnDisk d n ep slot old parts o) (hc : Calm n (Kept parts old) d d') (hok : d'.Ok n) (C : Cr) : OnDisk (d'.crashF C n) n ep slot old parts o :=
 (h.calm hc).calm ((crash_calm C hok).mono (fun j hj hk => (h.calm hc).r.lo j hj hk))
/-- all kept sectors but the other root's are the same -/
theorem OnDisk.other (h : OnDisk d n ep slot old parts o) (hc : ∀ j, j < n → Kept parts old j → j ≠ (1 - slot).toNat → sec d'.now j = sec d.now j) (hl : ∀ j, d'.loose.getD j false = false) (ot : Rt.goodR (sec d'.now (1 - slot).toNat) → Rt.decEp (sec d'.now (1 - slot).toNat) < ep) : OnDisk d' n ep slot old parts o := by
 have hs := h.r.sl
 have n2 := h.r.n2
 have page : ∀ x : Int, 0 ≤ x → x < (manyF n : Nat) → (x ∈ parts ∨ x ∈ old) → preadF (upD d') n x = preadF (upD d) n x := fun x h0 hm hx => by
  have := pread_sec (d := upD d) (d' := upD d') (n := n) rfl x.toNat (by omega) (fun j a b => hc j (by have := many_le (show x.toNat < manyF n by omega); omega) (.inr ⟨x.toNat, by rw [show ((x.toNat : Nat) : Int) = x by omega]; exact hx, a, b⟩) (by omega))
  rwa [show ((x.toNat : Nat) : Int) = x by omega] at this
 have key : ∀ x ∈ old, 0 ≤ x → preadF (upD d') n x = preadF (upD d) n x := fun x hx h0 => page x h0 (pages_many (by have := h.oi x hx; omega)) (.inr hx)
 refine ⟨⟨n2, h.r.ro, hs, ?_, ot, fun i x hx => ?_, fun j _ _ => hl j⟩, h.oi, h.oj, h.pi, h.dt, fun x hx h0 => ?_, ?_⟩
 ·rw [hc slot.toNat (by omega) (.inl (by omega)) (by omega)]; exact h.r.rt
 ·obtain ⟨q, q0, q1, q2⟩ := h.r.pp i x hx
  obtain ⟨p0, p1⟩ := h.pi x (List.mem_of_getElem? hx)
  exact ⟨q, q0, q1, (page x p0 (pages_many p1) (.inl (List.mem_of_getElem? hx))).trans q2⟩
 ·obtain ⟨q, s, q1, q2, q3, q4⟩ := h.ro x hx h0
  exact ⟨q, s, q1, q2, q3, (key x hx h0).trans q4⟩
 ·rw [← h.ab]
  refine List.map_congr_left (fun x hx => ?_)
  by_cases h0 : x < 0
  ·rw [if_pos h0, if_pos h0]
  ·rw [if_neg h0, if_neg h0, key x hx (by omega)]
end
/-- a root that is torn: the old one, the new one, or none -/
theorem torn_good {r o v : List UInt8} {k : Nat} (hr : r.length = 64) (ho : o.length = 64) (hr8 : r.take 8 = r.drop 56) (ho8 : o.take 8 = o.drop 56) (hne : Rt.decEp o ≠ Rt.decEp r) (_hk : k ≤ 64) (hv : v = r.take k ++ o.drop k) (hg : Rt.goodR v) : v = r ∨ v = o := by
 have h8 := (Rt.good_crc hg).2
 have hne8 : o.take 8 ≠ r.take 8 := fun e => hne (by unfold Rt.decEp; rw [e])
 have ends : ∀ {l : List UInt8}, l.take 8 = l.drop 56 → ∀ j, j < 8 → l[j]? = l[56 + j]? := fun {l} h j hj => by
  have := congrArg (fun m => m[j]?) h
  simp only [List.getElem?_drop] at this
  rwa [List.getElem?_take_of_lt hj] at this
 have vg : ∀ j, v[j]? = if j < k then r[j]? else o[j]? := fun j => by
  rw [hv]
  by_cases hj : j < k
  ·rw [if_pos hj, List.getElem?_append_left (by simp; omega), List.getElem?_take_of_lt hj]
  ·rw [if_neg hj, List.getElem?_append_right (by simp; omega), List.getElem?_drop]
   congr 1
   simp; omega
 have ve := ends h8
 have re := ends hr8
 have oe := ends ho8
 by_cases h1 : k ≤ 56
 ·by_cases h2 : 8 ≤ k
  ·exact absurd (List.ext_getElem? (fun j => by
    by_cases hj : j < 8
    ·rw [List.getElem?_take_of_lt hj, List.getElem?_take_of_lt hj]
     have e := ve j hj
     rw [vg j, vg (56 + j), if_pos (by omega), if_neg (by omega)] at e
     rw [oe j hj, ← e]
    ·rw [List.getElem?_eq_none (by simp; omega), List.getElem?_eq_none (by simp; omega)])) hne8
  ·right
   apply List.ext_getElem?
   intro j
   rw [vg]
   by_cases hj : j < k
   ·rw [if_pos hj]
    have e := ve j (by omega)
    rw [vg j, vg (56 + j), if_pos hj, if_neg (by omega)] at e
    rw [e, oe j (by omega)]
   ·rw [if_neg hj]
 ·left
  apply List.ext_getElem?
  intro j
  rw [vg]
  by_cases hj : j < k
  ·rw [if_pos hj]
  ·rw [if_neg hj]
   by_cases h64 : j < 64
   ·obtain ⟨i, rfl⟩ : ∃ i, j = 56 + i := ⟨j - 56, by omega⟩
    have e := ve i (by omega)
    rw [vg i, vg (56 + i), if_pos (by omega), if_neg hj] at e
    rw [← e, re i (by omega)]
   ·rw [List.getElem?_eq_none (by omega), List.getElem?_eq_none (by omega)]
/-- the other sectors behind a commit's laying -/
theorem layF_other {c : C} {n : Nat} (hok : c.d.Ok n) {P : List Nat} : Calm n (fun j => ¬ InP (Rt.natI P) j ∧ (j : Int) ≠ 1 - c.slot) c.d (c.layF n P).1 := by
 have eL : (Rt.natI P).length = P.length := by simp [Rt.natI]
 obtain ⟨ok1, cl⟩ := layP_calm hok (Rt.natI P) P.length (by omega)
 have c1 : Calm n (fun j => ¬ InP (Rt.natI P) j ∧ (j : Int) ≠ 1 - c.slot) c.d (c.layP n (Rt.natI P) P.length).1 := cl.mono (fun j _ hj => by
  rintro ⟨x, hx, h1, h2⟩
  have h0 : 0 ≤ x := by
   unfold Rt.natI at hx
   obtain ⟨y, _, rfl⟩ := List.mem_map.1 hx
   exact Int.natCast_nonneg y
  exact hj.1 ⟨x.toNat, by rw [show ((x.toNat : Nat) : Int) = x by omega]; exact hx, h1, h2⟩)
 unfold C.layF
 split
 ·exact c1
 ·split
  ·exact c1.trans calm_sync
  ·split
   ·exact (c1.trans calm_sync).trans (calm_write ok1.sync _ _ (fun j e hj => hj.2 e))
   ·exact ((c1.trans calm_sync).trans (calm_write ok1.sync _ _ (fun j e hj => hj.2 e))).trans calm_sync
/-- what a crash in the midst of a commit leaves -/
def Left (c : C) (n : Nat) (d' : D) : Prop := d'.Ok n ∧ ∀ C : Cr, (∃ sl parts old, OnDisk (d'.crashF C n) n c.ep sl old parts (c.absF n).old) ∨ (∃ sl parts old, OnDisk (d'.crashF C n) n (c.ep + 1) sl old parts (c.absF n).nextF)
theorem commit_sim {c : C} {n : Nat} (g : Good c n) (R : Rooted c.d n c.ep c.slot c.old c.parts) (T : Twin c.d c.slot c.ep) (he : c.ep < 1099511627775) (tl : c.table.length ≤ 512) {a : Int} (ha : 0 ≤ a) :
  (1 ≤ a ∧ ((c.armed a).commitF n).1.d.down = true ∧ Left c n ((c.armed a).commitF n).1.d) ∨ ∃ a', 0 ≤ a' ∧ a' ≤ a ∧ (c.armed a).commitF n = ((c.commitF n).1.armed a', (c.commitF n).2) := by
 have e1 : (c.armed a).m = c.m := rfl
 have e2 : (c.armed a).trimF = c.trimF.armed a := rfl
 have e3 : (c.armed a).ep = c.ep := rfl
 have e4 : (c.armed a).parts = c.parts := rfl
 have e5 : (c.armed a).slot = c.slot := rfl
 have e6 : (c.trimF.armed a).table = c.trimF.table := rfl
 by_cases hf : (Fm.listF c.m 0).length < needT c.trimF.table.length
 ·refine .inr ⟨a, ha, Int.le_refl _, ?_⟩
  unfold C.commitF
  rw [e1, e2, e6, if_pos hf, if_pos hf]
 ·obtain ⟨mT, P, hT, t1, t2, t3, t4, t5, t6, t7⟩ := commit_takes g tl (by omega)
  obtain ⟨d1, d2, d3, d4, d5, d6⟩ := done_good g R he tl hT (by omega) rfl
  have h5 : P.length ≤ 5 := Rt.rightR_len t7
  have hep := g.ep
  have hsl := g.sl
  have n2 := R.n2
  have hsim := layF_sim (c := { c.trimF with m := mT }) (n := n) g.up g.arm g.ok ha (P := P.map Int.toNat) (by rw [t6]; exact t2) (fun x hx => by
   rw [t6] at hx
   obtain ⟨i, e, hi, _⟩ := t4 x hx
   exact ⟨i, e, page_many g hi⟩) (show 0 ≤ c.ep ∧ c.ep < 1099511627776 by omega) n2 g.sl (by rw [List.length_map]; exact h5)
  have hoth := layF_other (c := { c.trimF with m := mT }) (n := n) g.ok (P := P.map Int.toNat)
  rw [t6] at hoth
  have elay : ({ c.trimF.armed a with m := mT } : C) = ({ c.trimF with m := mT } : C).armed a := rfl
  have ecom : (c.armed a).commitF n = if ((({ c.trimF with m := mT } : C).armed a).layF n (P.map Int.toNat)).2 ≠ 0 then
    ({ c.trimF.armed a with m := mT, d := ((({ c.trimF with m := mT } : C).armed a).layF n (P.map Int.toNat)).1, broken := true }, ((({ c.trimF with m := mT } : C).armed a).layF n (P.map Int.toNat)).2)
   else ({ c.trimF.armed a with m := Fm.turnF 0 1 (leaveAll mT c.parts), d := ((({ c.trimF with m := mT } : C).armed a).layF n (P.map Int.toNat)).1, old := c.trimF.table, parts := P, ep := c.ep + 1, slot := 1 - c.slot }, 0) := by
   unfold C.commitF
   rw [e1, e2, e6, if_neg hf, if_neg (show ¬ 1099511627776 ≤ (c.armed a).ep by rw [e3]; omega), hT]
   rfl
  have ecom0 : c.commitF n = (c.doneF (({ c.trimF with m := mT } : C).layF n (P.map Int.toNat)).1 mT P, 0) := by
   unfold C.commitF
   rw [if_neg hf, if_neg (by omega), hT]
   dsimp only
   rw [if_neg (by rw [d1]; decide)]
   rfl
  rw [ecom]
  obtain ⟨u, hu⟩ : ∃ u, (({ c.trimF with m := mT } : C).layF n (P.map Int.toNat)).1 = u := ⟨_, rfl⟩
  rw [hu] at d2 d3 d4 d5 d6 hsim hoth ecom0
  rcases hsim with ⟨f0, f1, f2, f3, f4⟩ | ⟨a', f1, f2, f3⟩
  ·left
   rw [if_pos f2]
   refine ⟨f0, f1, f3, fun cr => ?_⟩
   obtain ⟨v, hv⟩ : ∃ v, ((({ c.trimF with m := mT } : C).armed a).layF n (P.map Int.toNat)).1 = v := ⟨_, rfl⟩
   rw [hv] at f1 f3 f4
   show (∃ sl parts old, OnDisk (((({ c.trimF with m := mT } : C).armed a).layF n (P.map Int.toNat)).1.crashF cr n) n c.ep sl old parts (c.absF n).old) ∨ (∃ sl parts old, OnDisk (((({ c.trimF with m := mT } : C).armed a).layF n (P.map Int.toNat)).1.crashF cr n) n (c.ep + 1) sl old parts (c.absF n).nextF)
   rw [hv]
   have OD := on_disk g R
   have notP : ∀ j, Kept c.parts c.old j → ¬ InP (Rt.natI (P.map Int.toNat)) j := by
    rw [t6]
    rintro j hk ⟨x, hx, h1, h2⟩
    obtain ⟨i, e, hi, _, z1, z2, z3⟩ := t4 _ hx
    exact not_kept (k := x) z1 z2 j h1 h2 hk
   rcases f4 with f4 | ⟨_, q1, q2, q3⟩
   ·exact .inl ⟨c.slot, c.parts, c.old, OD.crash (f4.mono (fun j _ hk => notP j hk)) f3 cr⟩
   ·have hsn : (1 - c.slot).toNat < n := by omega
    have ODn := on_disk d2 d3
    have hab : (c.doneF u mT P).absF n = _ := d6
    rw [hab] at ODn
    obtain ⟨k, hk, hsec⟩ := crash_sec f3 cr (1 - c.slot).toNat hsn
    have q2 : v.loose.getD (1 - c.slot).toNat false = true := q2
    rw [if_pos q2] at hsec
    have q3 : sec v.old (1 - c.slot).toNat = sec c.d.now (1 - c.slot).toNat := q3
    have q1n : sec v.now (1 - c.slot).toNat = sec u.now (1 - c.slot).toNat := (q1 _ hsn).1
    rw [q3, q1n] at hsec
    have hsame : ∀ j, j < n → j ≠ (1 - c.slot).toNat → sec (v.crashF cr n).now j = sec u.now j := fun j hj hne => by
     have hl := (q1 j hj).2 hne
     rw [((crash_calm cr f3) j hj hl).1, (q1 j hj).1]
    have hroot : sec u.now (1 - c.slot).toNat = Rt.rootL (c.ep + 1) c.trimF.table.length (P.map Int.toNat) := d3.rt
    have hrr := root_twin t7 t6
    by_cases hnew : sec (v.crashF cr n).now (1 - c.slot).toNat = sec u.now (1 - c.slot).toNat
    ·refine .inr ⟨1 - c.slot, P, c.trimF.table, ?_⟩
     refine ODn.calm (fun j hj _ => ⟨?_, fun _ => crash_loose0 cr f3 j⟩)
     by_cases hne : j = (1 - c.slot).toNat
     ·rw [hne]; exact hnew
     ·exact hsame j hj hne
    ·refine .inl ⟨c.slot, c.parts, c.old, ?_⟩
     refine OD.other (fun j hj hkp hne => ?_) (crash_loose0 cr f3) (fun hgd => ?_)
     ·rw [hsame j hj hne]
      exact (hoth j hj ⟨by have := notP j hkp; rwa [t6] at this, by show (j : Int) ≠ 1 - c.slot; omega⟩).1
     ·have hl64 := sec_length g.ok.now hsn
      have hr64 : (sec u.now (1 - c.slot).toNat).length = 64 := by rw [hroot]; exact Rt.rootL_length _ _ _ (by simpa using h5)
      rcases torn_good hr64 hl64 (by rw [hroot]; exact hrr.1) T.1 (by rw [hroot, hrr.2]; have := T.2; omega) hk hsec hgd with h | h
      ·exact absurd h hnew
      ·rw [h]; exact T.2
  ·right
   rw [f3]
   dsimp only
   rw [if_neg (by rw [d1]; decide), ecom0]
   exact ⟨a', f1, f2, rfl⟩
end Go.Proofs.YtbelcgjbhpjnpaaGreat.Sh
