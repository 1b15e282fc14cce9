/- a pool plainly: Get, Put and Evict, where nothing is held. -/
import Derived.Test.YtbelcgjbhpjnpaaGreatDx
set_option linter.all false
set_option linter.unusedVariables false
set_option linter.unusedSimpArgs false
namespace Go.Proofs.YtbelcgjbhpjnpaaGreat.Sh
open Go.RowKit Pk Dk Pg
/-- all of a frame but whether it was used -/
def pdh (f : Fr) : Int × ByteArray × Bool × Int := (f.page, f.pay, f.dirty, f.held)
theorem pdh_pd {l l' : List Fr} (e : l'.map pdh = l.map pdh) : l'.map Sh.pd = l.map Sh.pd := by
 have h : ∀ l : List Fr, l.map Sh.pd = (l.map pdh).map (fun x => (x.1, x.2.1, x.2.2.1)) := fun l => by rw [List.map_map]; rfl
 rw [h, h, e]
theorem pdh_held {l l' : List Fr} (e : l'.map pdh = l.map pdh) (h : ∀ f ∈ l, f.held = 0) : ∀ f ∈ l', f.held = 0 := fun f hf => by
 have : pdh f ∈ l.map pdh := by rw [← e]; exact List.mem_map_of_mem hf
 obtain ⟨f', h1, h2⟩ := List.mem_map.1 this
 have h3 : f'.held = f.held := congrArg (fun x => x.2.2.2) h2
 rw [← h3]
 exact h f' h1
theorem qspin_find (s : QS) (hl : s.hand < s.l.length) (hh : ∀ f ∈ s.l, f.held = 0) : ∀ m, s.l.countP Fr.used < m → ∃ k : Nat, (s.spin m).2 = k ∧ k < s.l.length ∧ (s.spin m).1.l.map pdh = s.l.map pdh := by
 intro m
 induction m generalizing s with
 | zero => intro h; omega
 | succ m ih =>
  intro hm
  have hf := frD_get hl
  have h0 := hh _ (List.mem_of_getElem? hf)
  have ht : (s.hand + 1) % s.l.length < s.l.length := Nat.mod_lt _ (by omega)
  rw [spin_succ, if_neg (by omega)]
  by_cases hu : (frD s.l s.hand).used = true
  ·rw [if_pos hu]
   have hset : (s.l.set s.hand { frD s.l s.hand with used := false }).map pdh = s.l.map pdh := map_set_same s.l pdh s.hand hf rfl
   have hlen : (s.l.set s.hand { frD s.l s.hand with used := false }).length = s.l.length := List.length_set ..
   have hc : (s.l.set s.hand { frD s.l s.hand with used := false }).countP Fr.used < s.l.countP Fr.used := by
    rw [List.countP_set hl]
    have e : s.l[s.hand] = frD s.l s.hand := by unfold frD; rw [List.getElem?_eq_getElem hl]; rfl
    have hp : 0 < s.l.countP Fr.used := List.countP_pos_iff.2 ⟨_, List.getElem_mem hl, by rw [e]; exact hu⟩
    rw [e]
    simp [hu]
    omega
   obtain ⟨k, h1, h2, h3⟩ := ih { s.turn with l := s.l.set s.hand { frD s.l s.hand with used := false } } (by rw [hlen]; exact ht)
    (fun f hf2 => (List.mem_or_eq_of_mem_set hf2).elim (hh f) (fun e => by rw [e]; exact h0)) (by show List.countP _ (s.l.set _ _) < m; omega)
   rw [hlen] at h2
   exact ⟨k, h1, h2, h3.trans hset⟩
  ·rw [if_neg hu]
   exact ⟨s.hand, rfl, hl, rfl⟩
theorem qvictim_find (s : QS) (hl : s.hand < s.l.length) (hh : ∀ f ∈ s.l, f.held = 0) : ∃ k : Nat, s.victimF.2 = k ∧ k < s.l.length ∧ s.victimF.1.l.map pdh = s.l.map pdh := by
 unfold QS.victimF
 rcases ixF_le (fun f => decide (f.page < 0)) s.l with e | ⟨k, f, e, hf, _⟩
 ·rw [e, if_neg (by omega)]
  exact qspin_find s hl hh _ (by have := List.countP_le_length (p := Fr.used) (l := s.l); omega)
 ·rw [e, if_pos (by omega)]
  exact ⟨k, rfl, (List.getElem?_eq_some_iff.1 hf).1, rfl⟩
theorem Zc.len {c : C} {n : Nat} {a : St} {K : Nat} (z : Zc c n a K) {l : Int} (h : (a.readF l).2 = 0) : (a.readF l).1.length = 232 := by
 have hr := z.read l
 rw [read_good z.g] at hr
 rw [← hr] at h ⊢
 exact read_len z.g h
theorem ba_eta (b : ByteArray) : (⟨b.data.toList.toArray⟩ : ByteArray) = b := by simp
/-- what is dirty can be written -/
def Bk (q : QS) : Prop := ∀ f ∈ q.l, f.dirty = true → (q.a.writeF f.page f.pay.data.toList).2 = 0
/-- a frame is written back, or it is clean -/
theorem back_view {q : QS} (V : Vi q) (B : Bk q) {k : Nat} (hk : k < q.l.length) {P : St → Prop} (hP : P q.a) (hW : ∀ a l b, P a → P (a.writeF l b).1) :
  (q.backF k).2 = 0 ∧ P (q.backF k).1.a ∧ Vi (q.backF k).1 ∧ (∀ j, (q.backF k).1.vw j = q.vw j) ∧ ∃ f, (q.backF k).1.l[k]? = some f ∧ f.dirty = false ∧ (q.backF k).1.l.map Fr.held = q.l.map Fr.held ∧ (q.backF k).1.l.map Fr.page = q.l.map Fr.page := by
 have hf := frD_get hk
 unfold QS.backF
 by_cases hd : (frD q.l k).dirty = true
 ·have hw := B _ (List.mem_of_getElem? hf) hd
  have h0 : 0 ≤ (frD q.l k).page := by
   by_cases h : 0 ≤ (frD q.l k).page
   ·exact h
   ·have := V.em _ (List.mem_of_getElem? hf) (by omega)
    rw [hd] at this; cases this
  rw [if_pos hd, if_pos hw]
  obtain ⟨V', hv⟩ := V.wrote hf h0 hw
  exact ⟨rfl, hW _ _ _ hP, V', hv, { frD q.l k with dirty := false }, by show (q.l.set k _)[k]? = _; rw [List.getElem?_set_self hk], rfl, map_set_same q.l Fr.held k hf rfl, map_set_same q.l Fr.page k hf rfl⟩
 ·rw [if_neg hd]
  exact ⟨rfl, hP, V, fun j => rfl, _, hf, by simpa using hd, rfl, rfl⟩
theorem Bk.pdh {q q' : QS} (B : Bk q) (ea : q'.a = q.a) (e : q'.l.map Sh.pdh = q.l.map Sh.pdh) : Bk q' := fun f hf hd => by
 obtain ⟨f', a1, a2, a3, a4⟩ := pd_mem (pdh_pd e).symm hf
 rw [ea, ← a2, ← a3]
 exact B f' a1 (by rw [a4]; exact hd)
theorem hold_view {q : QS} {n K : Nat} (H : Hq q n K) (V : Vi q) (N : ∀ f ∈ q.l, f.held = 0) (B : Bk q) (p : Int) {P : St → Prop} (hP : P q.a) (hW : ∀ a l b, P a → P (a.writeF l b).1) :
  P (q.holdF p).1.a ∧ Vi (q.holdF p).1 ∧ (∀ j, (q.holdF p).1.vw j = q.vw j) ∧
  (((q.vw p).2 = 0 ∧ (q.holdF p).2 = (⟨(q.vw p).1.toArray⟩, 0) ∧ ∃ (k : Nat) (f : Fr), (q.holdF p).1.l[k]? = some f ∧ f.page = p ∧ 0 ≤ p ∧ f.held = 1 ∧ ∀ (i : Nat) (h : Fr), i ≠ k → (q.holdF p).1.l[i]? = some h → h.held = 0) ∨
   ((q.vw p).2 ≠ 0 ∧ (q.holdF p).2 = (⟨#[]⟩, (q.vw p).2) ∧ (q.holdF p).1 = q)) := by
 obtain ⟨c, z⟩ := H.z
 rcases findF_le q.l p with e | ⟨k, f, e, hk, he, hp0⟩
 ·have hno : p < 0 ∨ ∀ f ∈ q.l, f.page ≠ p := by
   by_cases h0 : p < 0
   ·exact .inl h0
   ·exact .inr (findF_no e (by omega))
  have hvw := vw_out (q := q) hno
  by_cases hr : (q.a.readF p).2 ≠ 0
  ·have hE : q.holdF p = (q, ⟨#[]⟩, (q.a.readF p).2) := by
    unfold QS.holdF
    rw [e, if_neg (by omega), if_pos hr]
   rw [hE]
   exact ⟨hP, V, fun j => rfl, .inr ⟨by rw [hvw]; exact hr, by rw [hvw], rfl⟩⟩
  have hr0 : (q.a.readF p).2 = 0 := by simpa using hr
  obtain ⟨k, v1, v2, v3⟩ := qvictim_find q H.lh N
  have va := victim_a q
  obtain ⟨V1, w1⟩ := V.pd (q' := q.victimF.1) va.1 (pdh_pd v3)
  have B1 := B.pdh (q' := q.victimF.1) va.1 v3
  have hkv : k < q.victimF.1.l.length := by omega
  obtain ⟨b1, b2, b3, b4, f, b5, b6, b7, b8⟩ := back_view V1 B1 hkv (P := P) (by rw [va.1]; exact hP) hW
  have hE : q.holdF p = ({ (q.victimF.1.backF k).1 with l := (q.victimF.1.backF k).1.l.set k ⟨p, ⟨(q.a.readF p).1.toArray⟩, 1, false, true⟩ }, ⟨(q.a.readF p).1.toArray⟩, 0) := by
   unfold QS.holdF
   rw [e, if_neg (by omega), if_neg hr, v1, if_neg (by omega), show ((k : Nat) : Int).toNat = k by omega, if_neg (by rw [b1]; simp)]
  have hp0 : 0 ≤ p := read_pos hr0
  have hpg : ∀ h ∈ (q.victimF.1.backF k).1.l, h.page ≠ p := fun h hh => by
   have : h.page ∈ q.l.map Fr.page := by
    have e1 : q.victimF.1.l.map Fr.page = q.l.map Fr.page := by
     have hx : ∀ l : List Fr, l.map Fr.page = (l.map pdh).map (fun x => x.1) := fun l => by rw [List.map_map]; rfl
     rw [hx, hx, v3]
    rw [← e1, ← b8]
    exact List.mem_map_of_mem hh
   obtain ⟨f', h1, h2⟩ := List.mem_map.1 this
   rw [← h2]
   exact hno.resolve_left (by omega) f' h1
  have hrd : (q.victimF.1.backF k).1.a.readF p = q.a.readF p := by
   have h1 := (b4 p).trans (w1 p)
   rw [vw_out (q := (q.victimF.1.backF k).1) (.inr hpg), hvw] at h1
   exact h1
  have hsw := b3.swap b5 b6 ⟨p, ⟨(q.a.readF p).1.toArray⟩, 1, false, true⟩ (.inr ⟨hp0, rfl, hpg, by
   show (q.victimF.1.backF k).1.a.readF p = ((q.a.readF p).1, 0)
   rw [hrd]
   exact Prod.ext rfl hr0, by show (q.a.readF p).1.toArray.size = 232; simpa using z.len hr0⟩)
  rw [hE]
  refine ⟨b2, hsw.1, fun j => ((hsw.2 j).trans (b4 j)).trans (w1 j), .inl ⟨by rw [hvw]; exact hr0, by rw [hvw], k, ⟨p, ⟨(q.a.readF p).1.toArray⟩, 1, false, true⟩, ?_, rfl, hp0, rfl, fun i h hi hh => ?_⟩⟩
  ·show (List.set _ _ _)[k]? = _
   rw [List.getElem?_set_self (List.getElem?_eq_some_iff.1 b5).1]
  ·have hh : (List.set (q.victimF.1.backF k).1.l k _)[i]? = some h := hh
   rw [List.getElem?_set_ne (by omega)] at hh
   have h3 : h.held ∈ q.victimF.1.l.map Fr.held := by rw [← b7]; exact List.mem_map_of_mem (List.mem_of_getElem? hh)
   obtain ⟨f', h4, h5⟩ := List.mem_map.1 h3
   rw [← h5]
   exact pdh_held v3 N f' h4
 ·have hkl := (List.getElem?_eq_some_iff.1 hk).1
  have hE : q.holdF p = ({ q with l := q.l.set k { f with held := f.held + 1, used := true } }, f.pay, 0) := by
   unfold QS.holdF
   rw [e, if_pos (by omega), show ((k : Nat) : Int).toNat = k by omega, frD_at hk]
  have hvw : q.vw p = (f.pay.data.toList, 0) := by rw [← he]; exact V.vw_in hk (by omega)
  obtain ⟨V1, w1⟩ := V.pd (q' := { q with l := q.l.set k { f with held := f.held + 1, used := true } }) rfl (map_set_same q.l Sh.pd k hk rfl)
  rw [hE]
  refine ⟨hP, V1, w1, .inl ⟨by rw [hvw], by rw [hvw, ba_eta], k, { f with held := f.held + 1, used := true }, ?_, he, hp0, ?_, fun i h hi hh => ?_⟩⟩
  ·show (q.l.set k _)[k]? = _
   rw [List.getElem?_set_self hkl]
  ·have := N f (List.mem_of_getElem? hk)
   show f.held + 1 = 1
   omega
  ·have hh : (q.l.set k _)[i]? = some h := hh
   rw [List.getElem?_set_ne (by omega)] at hh
   exact N h (List.mem_of_getElem? hh)
/-- Let, of the only page that is held -/
theorem let_view {q : QS} (V : Vi q) {p : Int} {k : Nat} {f : Fr} (hf : q.l[k]? = some f) (he : f.page = p) (h0 : 0 ≤ p) (h1 : f.held = 1) (hN : ∀ (i : Nat) (h : Fr), i ≠ k → q.l[i]? = some h → h.held = 0) :
  (q.letF p).1.a = q.a ∧ Vi (q.letF p).1 ∧ (∀ j, (q.letF p).1.vw j = q.vw j) ∧ ∀ f ∈ (q.letF p).1.l, f.held = 0 := by
 have hkl := (List.getElem?_eq_some_iff.1 hf).1
 have e : findF q.l p = k := by rw [← he]; exact find_at hf (by omega) (fun j h hj ej => V.un j k h f hj hf ej (by omega))
 have hE : (q.letF p).1 = { q with l := q.l.set k { f with held := f.held - 1 } } := by
  unfold QS.letF QS.heldF
  rw [e, if_neg (by omega), show ((k : Nat) : Int).toNat = k by omega, hf]
  dsimp only
  rw [if_neg (by omega)]
 rw [hE]
 obtain ⟨V1, w1⟩ := V.pd (q' := { q with l := q.l.set k { f with held := f.held - 1 } }) rfl (map_set_same q.l Sh.pd k hf rfl)
 refine ⟨rfl, V1, w1, fun g hg => ?_⟩
 rcases mem_set hg with rfl | ⟨i, hi, hi'⟩
 ·show f.held - 1 = 0
  omega
 ·exact hN i g hi hi'
theorem get_view {q : QS} {n K : Nat} (H : Hq q n K) (V : Vi q) (N : ∀ f ∈ q.l, f.held = 0) (B : Bk q) (p : Int) {P : St → Prop} (hP : P q.a) (hW : ∀ a l b, P a → P (a.writeF l b).1) :
  ((q.getF p).2.1.data.toList, (q.getF p).2.2) = ((if (q.vw p).2 = 0 then (q.vw p).1 else []), (q.vw p).2) ∧ P (q.getF p).1.a ∧ Vi (q.getF p).1 ∧ (∀ j, (q.getF p).1.vw j = q.vw j) ∧ ∀ f ∈ (q.getF p).1.l, f.held = 0 := by
 obtain ⟨h1, h2, h3, h4⟩ := hold_view H V N B p hP hW
 unfold QS.getF
 rcases h4 with ⟨e0, e1, k, f, hf, he, hp0, hh, hN⟩ | ⟨e0, e1, e2⟩
 ·rw [e1, if_neg (by simp)]
  obtain ⟨l1, l2, l3, l4⟩ := let_view h2 hf he hp0 hh hN
  refine ⟨?_, by rw [l1]; exact h1, l2, fun j => (l3 j).trans (h3 j), l4⟩
  rw [if_pos e0, e0]
 ·rw [e1, if_pos e0, if_neg e0]
  exact ⟨rfl, h1, h2, h3, by rw [e2]; exact N⟩
theorem heldN_zero {q : QS} (N : ∀ f ∈ q.l, f.held = 0) : q.heldN = 0 := by
 unfold QS.heldN
 rw [List.countP_eq_zero]
 intro f hf
 rw [N f hf]
 decide
end Go.Proofs.YtbelcgjbhpjnpaaGreat.Sh
