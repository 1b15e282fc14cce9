/- a pool plainly: Commit, where nothing is held; what PoolOne keeps. -/
import Derived.Test.YtbelcgjbhpjnpaaGreatDy
import Derived.Test.YtbelcgjbhpjnpaaGreatDr
set_option linter.all false
set_option linter.unusedVariables false
set_option linter.unusedSimpArgs false
namespace Go.Proofs.YtbelcgjbhpjnpaaGreat.Sh
open Go.RowKit Pk Dk Pg
/-- a frame's payload is another one -/
theorem Vi.setp {q : QS} (V : Vi q) {k : Nat} {f : Fr} (hf : q.l[k]? = some f) (h0 : 0 ≤ f.page) (g : Fr) (ep : g.page = f.page) (hd : g.dirty = true) (hs : g.pay.size = 232) :
  Vi { q with l := q.l.set k g } ∧ ∀ j, QS.vw { q with l := q.l.set k g } j = if j = f.page then (g.pay.data.toList, 0) else q.vw j := by
 have hk := (List.getElem?_eq_some_iff.1 hf).1
 have gt : ∀ (i : Nat) (x : Fr), (q.l.set k g)[i]? = some x → ∃ x', q.l[i]? = some x' ∧ x'.page = x.page := fun i x hx => by
  by_cases hik : i = k
  ·subst hik
   rw [List.getElem?_set_self hk] at hx
   injection hx with hx
   exact ⟨f, hf, by rw [← hx, ep]⟩
  ·rw [List.getElem?_set_ne (by omega)] at hx
   exact ⟨x, hx, rfl⟩
 have V' : Vi { q with l := q.l.set k g } := by
  refine ⟨fun i j f1 h1 hf1 hh1 e1 h01 => ?_, fun f1 hf1 h01 hd1 => ?_, fun f1 hf1 h01 => ?_, fun f1 hf1 h01 => ?_, fun f1 hf1 h01 => ?_⟩
  ·obtain ⟨f', a1, a2⟩ := gt i f1 hf1
   obtain ⟨h', b1, b2⟩ := gt j h1 hh1
   exact V.un i j f' h' a1 b1 (by omega) (by omega)
  ·rcases mem_set hf1 with rfl | ⟨i, hi, hi'⟩
   ·rw [hd] at hd1; cases hd1
   ·exact V.cl f1 (List.mem_of_getElem? hi') h01 hd1
  ·show (q.a.readF f1.page).2 = 0
   rcases mem_set hf1 with rfl | ⟨i, hi, hi'⟩
   ·rw [ep]; exact V.ex f (List.mem_of_getElem? hf) h0
   ·exact V.ex f1 (List.mem_of_getElem? hi') h01
  ·rcases mem_set hf1 with rfl | ⟨i, hi, hi'⟩
   ·omega
   ·exact V.em f1 (List.mem_of_getElem? hi') h01
  ·rcases mem_set hf1 with rfl | ⟨i, hi, hi'⟩
   ·exact hs
   ·exact V.fl f1 (List.mem_of_getElem? hi') h01
 refine ⟨V', fun j => ?_⟩
 by_cases hj : j = f.page
 ·subst hj
  rw [if_pos rfl, ← ep]
  exact V'.vw_in (k := k) (f := g) (by show (q.l.set k g)[k]? = _; rw [List.getElem?_set_self hk]) (by omega)
 ·rw [if_neg hj]
  rcases vw_cases q j with h | ⟨i, f1, hf1, rfl, h01⟩
  ·rw [vw_out h, vw_out (q := { q with l := q.l.set k g }) (h.imp id (fun h x hx => by
    rcases mem_set hx with rfl | ⟨i, hi, hi'⟩
    ·rw [ep]; exact h f (List.mem_of_getElem? hf)
    ·exact h x (List.mem_of_getElem? hi')))]
  ·rw [V.vw_in hf1 h01]
   refine V'.vw_in (k := i) (f := f1) ?_ h01
   have hik : i ≠ k := fun e => by
    subst e
    have : f1 = f := by rw [hf1] at hf; injection hf
    exact hj (by rw [this])
   show (q.l.set k g)[i]? = _
   rw [List.getElem?_set_ne (by omega)]
   exact hf1
theorem put_view {q : QS} {n K : Nat} (H : Hq q n K) (V : Vi q) (N : ∀ f ∈ q.l, f.held = 0) (B : Bk q) (p : Int) (b : ByteArray) {P : St → Prop} (hP : P q.a) (hW : ∀ a l b, P a → P (a.writeF l b).1) :
  P (q.putF p b).1.a ∧ Vi (q.putF p b).1 ∧ (∀ f ∈ (q.putF p b).1.l, f.held = 0) ∧
  ((q.putF p b).2 = 0 → ∀ j, (q.putF p b).1.vw j = if j = p then (padL b.data.toList 232, 0) else q.vw j) ∧ ((q.putF p b).2 ≠ 0 → ∀ j, (q.putF p b).1.vw j = q.vw j) := by
 unfold QS.putF
 by_cases hb : 232 < b.size
 ·rw [if_pos hb]
  exact ⟨hP, V, N, fun h => absurd h (by show (4 : Int) ≠ 0; decide), fun _ j => rfl⟩
 rw [if_neg hb]
 obtain ⟨h1, h2, h3, h4⟩ := hold_view H V N B p hP hW
 rcases h4 with ⟨e0, e1, k, f, hf, he, hp0, hh, hN⟩ | ⟨e0, e1, e2⟩
 ·rw [e1, if_neg (by simp)]
  have hkl := (List.getElem?_eq_some_iff.1 hf).1
  have e : findF (q.holdF p).1.l p = k := by
   have e := find_at hf (by omega) (fun j h hj ej => h2.un j k h f hj hf ej (by omega))
   rw [he] at e
   exact e
  have hE : ((q.holdF p).1.setF p b).1 = { (q.holdF p).1 with l := (q.holdF p).1.l.set k { f with pay := fullB b, dirty := true, used := true } } := by
   unfold QS.setF QS.heldF
   rw [if_neg hb, e, if_neg (by omega), show ((k : Nat) : Int).toNat = k by omega, hf]
   dsimp only
   rw [if_neg (by omega)]
  have hset := h2.setp hf (by omega) { f with pay := fullB b, dirty := true, used := true } rfl rfl (fullB_size (by omega))
  have hlet := let_view (q := ((q.holdF p).1.setF p b).1) (by rw [hE]; exact hset.1) (p := p) (k := k) (f := { f with pay := fullB b, dirty := true, used := true }) (by rw [hE]; show (List.set _ _ _)[k]? = _; rw [List.getElem?_set_self hkl]) he hp0 hh (fun i h hi hx => by
   rw [hE] at hx
   have hx : (List.set (q.holdF p).1.l k _)[i]? = some h := hx
   rw [List.getElem?_set_ne (by omega)] at hx
   exact hN i h hi hx)
  obtain ⟨l1, l2, l3, l4⟩ := hlet
  refine ⟨by rw [l1, hE]; exact h1, l2, l4, fun _ j => ?_, fun h => absurd rfl h⟩
  rw [l3 j, hE, hset.2 j, he]
  by_cases hj : j = p
  ·rw [if_pos hj, if_pos hj]
   rfl
  ·rw [if_neg hj, if_neg hj]
   exact h3 j
 ·rw [e1, if_pos e0]
  exact ⟨h1, h2, by rw [e2]; exact N, fun h => absurd h e0, fun _ => h3⟩
theorem evict_view {q : QS} (V : Vi q) (N : ∀ f ∈ q.l, f.held = 0) (B : Bk q) (i : Int) {P : St → Prop} (hP : P q.a) (hW : ∀ a l b, P a → P (a.writeF l b).1) :
  P (q.evictF i).1.a ∧ Vi (q.evictF i).1 ∧ (∀ j, (q.evictF i).1.vw j = q.vw j) ∧ ∀ f ∈ (q.evictF i).1.l, f.held = 0 := by
 unfold QS.evictF
 split
 ·exact ⟨hP, V, fun j => rfl, N⟩
 ·split
  ·exact ⟨hP, V, fun j => rfl, N⟩
  ·split
   ·exact ⟨hP, V, fun j => rfl, N⟩
   ·rename_i hi _ _
    obtain ⟨b1, b2, b3, b4, f, b5, b6, b7, b8⟩ := back_view V B (k := i.toNat) (by omega) hP hW
    rw [if_neg (by rw [b1]; simp)]
    have hsw := b3.swap b5 b6 Fr.nil (.inl rfl)
    refine ⟨b2, hsw.1, fun j => (hsw.2 j).trans (b4 j), fun g hg => ?_⟩
    rcases mem_set hg with rfl | ⟨i', hi1, hi2⟩
    ·rfl
    ·have h3 : g.held ∈ q.l.map Fr.held := by rw [← b7]; exact List.mem_map_of_mem (List.mem_of_getElem? hi2)
     obtain ⟨f', h4, h5⟩ := List.mem_map.1 h3
     rw [← h5]
     exact N f' h4
theorem trimN_none (l : List Sl14) : ∀ (k i : Nat), trimN l k ≤ i → i < k → (l[i]?).getD none = none
 | 0, i, _, h => absurd h (Nat.not_lt_zero i)
 | k + 1, i, h1, h2 => by
  unfold trimN at h1
  by_cases h : ((l[k]?).getD none).isSome = true
  ·rw [if_pos h] at h1; omega
  ·rw [if_neg h] at h1
   by_cases hk : i = k
   ·subst hk
    simpa using h
   ·exact trimN_none l k i h1 (by omega)
theorem next_at (a : St) (j : Int) : ({ a with now := oldS a.nextF, old := a.nextF, ep := a.ep + 1 } : St).at j = unfr (a.at j) := by
 unfold St.at
 by_cases h0 : 0 ≤ j
 ·rw [if_pos h0, if_pos h0]
  show ((oldS a.nextF)[j.toNat]?).getD none = _
  rw [next_old, List.getElem?_map, List.getElem?_take]
  by_cases h : j.toNat < trimN a.now a.now.length
  ·rw [if_pos h]
   cases hx : a.now[j.toNat]? with
   | none => rfl
   | some u => rfl
  ·rw [if_neg h]
   by_cases hl : j.toNat < a.now.length
   ·rw [trimN_none a.now a.now.length j.toNat (by omega) hl]
    rfl
   ·rw [List.getElem?_eq_none (by omega)]
    rfl
 ·rw [if_neg h0, if_neg h0]
  rfl
theorem commit_read (a : St) (j : Int) : a.commitF.1.readF j = a.readF j ∧ ((a.commitF.1.at j).isSome = (a.at j).isSome) := by
 unfold St.commitF
 split
 ·exact ⟨rfl, rfl⟩
 ·unfold St.readF
  show (match St.at { a with now := oldS a.nextF, old := a.nextF, ep := a.ep + 1 } j with | some (_, b) => (b, (0 : Int)) | none => ([], 3)) = _ ∧ (St.at { a with now := oldS a.nextF, old := a.nextF, ep := a.ep + 1 } j).isSome = _
  rw [next_at]
  cases a.at j with
  | none => exact ⟨rfl, rfl⟩
  | some u => exact ⟨rfl, rfl⟩
/-- all is written back -/
theorem backs_view {q : QS} {n K : Nat} (H : Hq q n K) (V : Vi q) (N : ∀ f ∈ q.l, f.held = 0) {P : St → Prop} (hP : P q.a) (hW : ∀ a l b, P a → P (a.writeF l b).1) (hB : ∀ q', Vi q' → P q'.a → Bk q') : ∀ i, i ≤ q.l.length →
  (q.backsF i).2 = 0 ∧ P (q.backsF i).1.a ∧ Vi (q.backsF i).1 ∧ (∀ j, (q.backsF i).1.vw j = q.vw j) ∧ (∀ f ∈ (q.backsF i).1.l, f.held = 0)
 | 0, _ => ⟨rfl, hP, V, fun j => rfl, N⟩
 | i + 1, hi => by
  obtain ⟨h1, h2, h3, h4, h5⟩ := backs_view H V N hP hW hB i (by omega)
  rw [backs_s, if_neg (by rw [h1]; simp)]
  obtain ⟨b1, b2, b3, b4, f, b5, b6, b7, b8⟩ := back_view h3 (hB _ h3 h2) (k := i) (by rw [(H.backs i (by omega)).2]; omega) h2 hW
  refine ⟨b1, b2, b3, fun j => (b4 j).trans (h4 j), fun g hg => ?_⟩
  have h6 : g.held ∈ (q.backsF i).1.l.map Fr.held := by rw [← b7]; exact List.mem_map_of_mem hg
  obtain ⟨f', h7, h8⟩ := List.mem_map.1 h6
  rw [← h8]
  exact h5 f' h7
theorem Vi.commit {q : QS} (V : Vi q) : Vi { q with a := q.a.commitF.1 } ∧ ∀ j, QS.vw { q with a := q.a.commitF.1 } j = q.vw j := by
 refine ⟨⟨V.un, fun f hf h0 hd => ?_, fun f hf h0 => ?_, V.em, V.fl⟩, fun j => ?_⟩
 ·show q.a.commitF.1.readF f.page = _
  rw [(commit_read q.a _).1]
  exact V.cl f hf h0 hd
 ·show (q.a.commitF.1.readF f.page).2 = 0
  rw [(commit_read q.a _).1]
  exact V.ex f hf h0
 ·unfold QS.vw
  show (if 0 ≤ findF q.l j then _ else q.a.commitF.1.readF j) = _
  rw [(commit_read q.a j).1]
theorem commit_view {q : QS} {n K : Nat} (H : Hq q n K) (V : Vi q) (N : ∀ f ∈ q.l, f.held = 0) {P : St → Prop} (hP : P q.a) (hW : ∀ a l b, P a → P (a.writeF l b).1) (hC : ∀ a, P a → P a.commitF.1) (hB : ∀ q', Vi q' → P q'.a → Bk q') :
  P q.commitF.1.a ∧ Vi q.commitF.1 ∧ (∀ j, q.commitF.1.vw j = q.vw j) ∧ ∀ f ∈ q.commitF.1.l, f.held = 0 := by
 obtain ⟨h1, h2, h3, h4, h5⟩ := backs_view H V N hP hW hB q.l.length (Nat.le_refl _)
 unfold QS.commitF
 rw [if_neg (by rw [heldN_zero N]; omega), if_neg (by rw [h1]; simp)]
 obtain ⟨c1, c2⟩ := h3.commit
 exact ⟨hC _ h2, c1, fun j => (c2 j).trans (h4 j), h5⟩
/-- what PoolOne keeps of the store -/
structure J6 (a : St) : Prop where
 m : a.many = 40
 nl : a.now.length ≤ 6
 ol : a.old.length ≤ 6
 ex : ∀ j : Nat, j < 6 → (a.at (j : Nat)).isSome = true
theorem J6.free {a : St} (h : J6 a) : a.free ≠ 0 := by
 have h1 : a.fresh ≤ a.now.length := List.countP_le_length
 have h2 : a.old.countP Option.isSome ≤ a.old.length := List.countP_le_length
 have h3 := h.m
 have h4 := h.nl
 have h5 := h.ol
 unfold St.free St.kept needT
 omega
theorem J6.write {a : St} (h : J6 a) (l : Int) (b : List UInt8) : J6 (a.writeF l b).1 := by
 have hl := write_len a l b
 refine ⟨?_, by rw [hl]; exact h.nl, ?_, fun j hj => ?_⟩
 ·unfold St.writeF
  split
  ·exact h.m
  ·split
   ·exact h.m
   ·split
    ·exact h.m
    ·exact h.m
 ·unfold St.writeF
  split
  ·exact h.ol
  ·split
   ·exact h.ol
   ·split
    ·exact h.ol
    ·exact h.ol
 ·by_cases hw : (a.writeF l b).2 = 0
  ·have hr := write_read hw (j : Nat)
   rw [← read_ok]
   rw [hr]
   split
   ·rfl
   ·exact read_ok.2 (h.ex j hj)
  ·have : (a.writeF l b).1 = a := by
    unfold St.writeF at hw ⊢
    split
    ·rfl
    ·split
     ·rfl
     ·split
      ·rfl
      ·rename_i h1 h2 h3
       rw [if_neg h1, if_neg h2, if_neg h3] at hw
       exact absurd rfl hw
   rw [this]
   exact h.ex j hj
theorem J6.commit {a : St} (h : J6 a) : J6 a.commitF.1 := by
 have hr := fun j => (commit_read a j).2
 refine ⟨?_, ?_, ?_, fun j hj => by rw [hr]; exact h.ex j hj⟩
 ·unfold St.commitF
  split <;> exact h.m
 ·unfold St.commitF
  split
  ·exact h.nl
  ·show (oldS a.nextF).length ≤ 6
   unfold oldS
   rw [List.length_map]
   have := next_len a
   have := h.nl
   omega
 ·unfold St.commitF
  split
  ·exact h.ol
  ·show a.nextF.length ≤ 6
   have := next_len a
   have := h.nl
   omega
theorem J6.bk {q : QS} (V : Vi q) (h : J6 q.a) : Bk q := fun f hf hd => by
 have h0 : 0 ≤ f.page := by
  by_cases h0 : 0 ≤ f.page
  ·exact h0
  ·have := V.em f hf (by omega)
   rw [hd] at this; cases this
 have hx := read_ok.1 (V.ex f hf h0)
 have hl : f.pay.data.toList.length = f.pay.size := by simp
 have hs := V.fl f hf h0
 have hfr := h.free
 unfold St.writeF
 rw [if_neg (by omega), if_neg (by rw [hx]; simp), if_neg (fun h => hfr h.2)]
/-- what PoolOne keeps -/
structure One (q : QS) (k : Nat) (last : ByteArray) : Prop where
 J : J6 q.a
 V : Vi q
 N : ∀ f ∈ q.l, f.held = 0
 v : q.vw (k : Nat) = (last.data.toList, 0)
section
variable {q : QS} {n K k : Nat} {last : ByteArray}
theorem One.get (h : One q k last) (H : Hq q n K) (p : Int) : One (q.getF p).1 k last := by
 obtain ⟨_, h1, h2, h3, h4⟩ := get_view H h.V h.N (J6.bk h.V h.J) p (P := J6) h.J (fun a l b ha => ha.write l b)
 exact ⟨h1, h2, h4, by rw [h3]; exact h.v⟩
theorem One.got (h : One q k last) (H : Hq q n K) : (q.getF (k : Nat)).2 = (last, 0) := by
 obtain ⟨h0, _⟩ := get_view H h.V h.N (J6.bk h.V h.J) (k : Nat) (P := J6) h.J (fun a l b ha => ha.write l b)
 rw [h.v, if_pos rfl] at h0
 have e1 := congrArg Prod.fst h0
 have e2 := congrArg Prod.snd h0
 dsimp only at e1 e2
 refine Prod.ext ?_ e2
 show (q.getF (k : Nat)).2.1 = last
 rw [← ba_eta (q.getF (k : Nat)).2.1, e1, ba_eta]
theorem One.evict (h : One q k last) (i : Int) : One (q.evictF i).1 k last := by
 obtain ⟨h1, h2, h3, h4⟩ := evict_view h.V h.N (J6.bk h.V h.J) i (P := J6) h.J (fun a l b ha => ha.write l b)
 exact ⟨h1, h2, h4, by rw [h3]; exact h.v⟩
theorem One.commit (h : One q k last) (H : Hq q n K) : One q.commitF.1 k last := by
 obtain ⟨h1, h2, h3, h4⟩ := commit_view H h.V h.N (P := J6) h.J (fun a l b ha => ha.write l b) (fun a ha => ha.commit) (fun q' V' J' => J6.bk V' J')
 exact ⟨h1, h2, h4, by rw [h3]; exact h.v⟩
theorem One.put (h : One q k last) (H : Hq q n K) (p : Int) (b : ByteArray) : One (q.putF p b).1 k (if (q.putF p b).2 = 0 ∧ p = (k : Nat) then fullB b else last) := by
 obtain ⟨h1, h2, h3, h4, h5⟩ := put_view H h.V h.N (J6.bk h.V h.J) p b (P := J6) h.J (fun a l b ha => ha.write l b)
 refine ⟨h1, h2, h3, ?_⟩
 by_cases h0 : (q.putF p b).2 = 0
 ·rw [h4 h0]
  by_cases hp : p = (k : Nat)
  ·rw [if_pos hp.symm, if_pos ⟨h0, hp⟩]
   unfold fullB
   rfl
  ·rw [if_neg (fun e => hp e.symm), if_neg (fun e => hp e.2)]
   exact h.v
 ·rw [h5 h0, if_neg (fun e => h0 e.1)]
  exact h.v
end
/-- six pages made -/
def six (fr : Nat) : Nat → QS
 | 0 => QS.start fr 40
 | i + 1 => ((six fr i).newF []).1
def sixA : Nat → St
 | 0 => St.start 40
 | i + 1 => ((sixA i).newF []).1
theorem six_eq (fr : Nat) : ∀ i, six fr i = ⟨sixA i, List.replicate fr Fr.nil, 0⟩
 | 0 => rfl
 | i + 1 => by
  show ((six fr i).newF []).1 = _
  rw [six_eq fr i]
  rfl
set_option maxRecDepth 100000 in
theorem sixA_e : (sixA 6).many = 40 ∧ (sixA 6).now.length = 6 ∧ (sixA 6).old.length = 0 ∧ (∀ j, j < 6 → ((sixA 6).at (j : Nat)).isSome = true) ∧ ∀ j, j < 6 → (sixA 6).readF (j : Nat) = (padL [] 232, 0) := by decide +kernel
theorem One.start (fr k : Nat) (hk : k < 6) : One (six fr 6) k ⟨(padL [] 232).toArray⟩ := by
 obtain ⟨h1, h2, h3, h4, h5⟩ := sixA_e
 rw [six_eq]
 have hn : ∀ f ∈ List.replicate fr Fr.nil, f = Fr.nil := fun f hf => List.eq_of_mem_replicate hf
 refine ⟨⟨h1, by show (sixA 6).now.length ≤ 6; omega, by show (sixA 6).old.length ≤ 6; omega, h4⟩, ⟨fun i j f h hf hh e h0 => ?_, fun f hf h0 hd => ?_, fun f hf h0 => ?_, fun f hf h0 => ?_, fun f hf h0 => ?_⟩, fun f hf => by rw [hn f hf]; rfl, ?_⟩
 ·rw [hn f (List.mem_of_getElem? hf)] at h0
  exact absurd h0 (by decide)
 ·rw [hn f hf] at h0
  exact absurd h0 (by decide)
 ·rw [hn f hf] at h0
  exact absurd h0 (by decide)
 ·rw [hn f hf]; rfl
 ·rw [hn f hf] at h0
  exact absurd h0 (by decide)
 ·rw [vw_out (.inr (fun f hf => by
   rw [hn f hf]
   show (-1 : Int) ≠ _
   omega))]
  rw [h5 k hk]
end Go.Proofs.YtbelcgjbhpjnpaaGreat.Sh
