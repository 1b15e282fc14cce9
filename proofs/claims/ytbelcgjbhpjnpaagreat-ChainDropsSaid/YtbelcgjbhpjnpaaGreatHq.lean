/- a pool plainly: what every call keeps. -/
import Derived.Test.YtbelcgjbhpjnpaaGreatZe
set_option linter.all false
set_option linter.unusedVariables false
set_option linter.unusedSimpArgs false
namespace Go.Proofs.YtbelcgjbhpjnpaaGreat.Sh
open Go.RowKit Pk Dk Pg
section
variable {c : C} {n : Nat} {a : St} {K : Nat}
theorem Zc.room (z : Zc c n a K) : a.fresh + a.kept ≤ a.many := by
 obtain ⟨k, e⟩ := z.e
 rw [e, pad_fresh, pad_kept]
 exact (free_count z.g).2
theorem Zc.full (z : Zc c n a K) : Full a := by
 intro l
 by_cases h : (a.readF l).2 = 0
 ·have hr := z.read l
  rw [read_good z.g] at hr
  rw [← hr] at h ⊢
  exact Nat.le_of_eq (read_len z.g h)
 ·unfold St.readF at h ⊢
  cases ha : a.at l with
  | none => exact Nat.zero_le _
  | some u => rw [ha] at h; exact absurd rfl h
theorem Zc.tl (z : Zc c n a K) (h : a.now.length ≤ 512) : c.table.length ≤ 512 := by
 obtain ⟨k, e⟩ := z.e
 rw [e] at h
 have h2 : ((c.absF n).pad k).now.length = c.table.length + k := by
  unfold St.pad C.absF
  simp
 omega
end
/-- a pool that is well -/
structure Hq (q : QS) (n K : Nat) : Prop where
 z : ∃ c, Zc c n q.a K
 f : Fb q.l K
 l1 : 1 ≤ q.l.length
 l2 : q.l.length ≤ 32
 lh : q.hand < q.l.length
 nl : q.a.now.length ≤ 512
section
variable {q : QS} {n K : Nat}
theorem Hq.room (h : Hq q n K) : q.a.fresh + q.a.kept ≤ q.a.many := by
 obtain ⟨c, z⟩ := h.z
 exact z.room
theorem Hq.full (h : Hq q n K) : Full q.a := by
 obtain ⟨c, z⟩ := h.z
 exact z.full
theorem Hq.more (h : Hq q n K) {K' : Nat} (hk : K ≤ K') : Hq q n K' := by
 obtain ⟨c, z⟩ := h.z
 exact ⟨⟨c, z.more hk⟩, h.f.more hk, h.l1, h.l2, h.lh, h.nl⟩
theorem Hq.pay (h : Hq q n K) : ∀ f ∈ q.l, f.pay.size ≤ 1000 := fun f hf => (h.f f hf).2.2
theorem Hq.frames (h : Hq q n K) {q' : QS} {K' : Nat} (ha : q'.a = q.a) (hk : K ≤ K') (hf : Fb q'.l K') (hl : q'.l.length = q.l.length) (hh : q'.hand < q.l.length) : Hq q' n K' := by
 obtain ⟨c, z⟩ := h.z
 exact ⟨⟨c, by rw [ha]; exact z.more hk⟩, hf, by rw [hl]; exact h.l1, by rw [hl]; exact h.l2, by rw [hl]; exact hh, by rw [ha]; exact h.nl⟩
theorem write_len (a : St) (l : Int) (p : List UInt8) : (a.writeF l p).1.now.length = a.now.length := by
 unfold St.writeF
 split
 ·rfl
 ·split
  ·rfl
  ·split
   ·rfl
   ·show (a.now.set _ _).length = _
    rw [List.length_set]
theorem Hq.victim (h : Hq q n K) : Hq q.victimF.1 n K ∧ (q.victimF.2 = -1 ∨ ∃ k : Nat, q.victimF.2 = k ∧ k < q.l.length) := by
 obtain ⟨v1, v2, v3⟩ := qvictim_ok q h.lh h.f
 have va := victim_a q
 exact ⟨h.frames va.1 (Nat.le_refl _) v1 va.2 (by rw [← va.2]; exact v2), v3⟩
theorem back_hand (q : QS) (k : Nat) : (q.backF k).1.hand = q.hand := by
 unfold QS.backF
 split
 ·split <;> rfl
 ·rfl
theorem back_now (q : QS) (k : Nat) : (q.backF k).1.a.now.length = q.a.now.length := by
 unfold QS.backF
 split
 ·split
  ·exact write_len _ _ _
  ·exact write_len _ _ _
 ·rfl
theorem Hq.back (h : Hq q n K) (k : Nat) (hk : k < q.l.length) : Hq (q.backF k).1 n (K + 1) := by
 obtain ⟨b1, b2⟩ := back_l h.f hk
 obtain ⟨c, z⟩ := h.z
 refine ⟨?_, b1.more (by omega), by rw [b2]; exact h.l1, by rw [b2]; exact h.l2, by rw [b2, back_hand]; exact h.lh, by rw [back_now]; exact h.nl⟩
 unfold QS.backF
 split
 ·split
  ·exact ⟨_, (z.write _ _).1⟩
  ·exact ⟨_, (z.write _ _).1⟩
 ·exact ⟨c, z.more (by omega)⟩
theorem Hq.put (h : Hq q n K) (k : Nat) {f : Fr} (hf : 0 ≤ f.held ∧ f.held ≤ K ∧ f.pay.size ≤ 1000) : Hq { q with l := q.l.set k f } n K :=
 h.frames rfl (Nat.le_refl _) (h.f.set k hf) List.length_set h.lh
theorem Hq.hold (h : Hq q n K) (p : Int) : Hq (q.holdF p).1 n (K + 1) := by
 unfold QS.holdF
 rcases findF_le q.l p with e | ⟨k, f, e, hk, _, _⟩
 ·rw [e, if_neg (by omega)]
  split
  ·exact h.more (by omega)
  ·obtain ⟨v1, v3⟩ := h.victim
   have va := victim_a q
   split
   ·exact v1.more (by omega)
   ·rcases v3 with v3 | ⟨k, v3, hk⟩
    ·omega
    ·rw [v3, show ((k : Nat) : Int).toNat = k by omega]
     have hb := v1.back k (by omega)
     split
     ·exact hb
     ·exact hb.put k ⟨by show (0 : Int) ≤ 1; omega, by show (1 : Int) ≤ _; omega, str_le (h.full p)⟩
 ·rw [e, if_pos (by omega), show ((k : Nat) : Int).toNat = k by omega, frD_at hk]
  have hm := h.f _ (List.mem_of_getElem? hk)
  exact (h.more (by omega)).put k ⟨by show 0 ≤ f.held + 1; omega, by show f.held + 1 ≤ _; omega, hm.2.2⟩
theorem Hq.let_ (h : Hq q n K) (p : Int) : Hq (q.letF p).1 n K := by
 obtain ⟨a, b, c, d⟩ := let_l h.f p
 exact h.frames c (Nat.le_refl _) a b (by rw [d]; exact h.lh)
theorem Hq.set (h : Hq q n K) (p : Int) (b : ByteArray) : Hq (q.setF p b).1 n K := by
 obtain ⟨a, e, c, d⟩ := set_l h.f p b
 exact h.frames c (Nat.le_refl _) a e (by rw [d]; exact h.lh)
theorem Hq.get (h : Hq q n K) (p : Int) : Hq (q.getF p).1 n (K + 1) := by
 unfold QS.getF
 split
 ·exact h.hold p
 ·exact (h.hold p).let_ p
theorem Hq.put_ (h : Hq q n K) (p : Int) (b : ByteArray) : Hq (q.putF p b).1 n (K + 1) := by
 unfold QS.putF
 split
 ·exact h.more (by omega)
 ·split
  ·exact h.hold p
  ·exact ((h.hold p).set p b).let_ p
theorem drop_len (a : St) (l : Int) : (a.dropF l).1.now.length = a.now.length := by
 unfold St.dropF
 split
 ·show (a.now.set _ _).length = _
  rw [List.length_set]
 ·rfl
theorem Hq.drop (h : Hq q n K) (p : Int) : Hq (q.dropF p).1 n K := by
 obtain ⟨c, z⟩ := h.z
 have hd : Hq { q with a := (q.a.dropF p).1 } n K := ⟨⟨_, (z.drop p).1⟩, h.f, h.l1, h.l2, h.lh, by show (q.a.dropF p).1.now.length ≤ 512; rw [drop_len]; exact h.nl⟩
 unfold QS.dropF
 split
 ·exact h
 ·split
  ·exact hd
  ·split
   ·exact hd.put _ Fb.nil
   ·exact hd
theorem Hq.evict (h : Hq q n K) (i : Int) : Hq (q.evictF i).1 n (K + 1) := by
 unfold QS.evictF
 split
 ·exact h.more (by omega)
 ·split
  ·exact h.more (by omega)
  ·split
   ·exact h.more (by omega)
   ·split
    ·exact h.back _ (by omega)
    ·exact (h.back _ (by omega)).put _ Fb.nil
theorem backs_s (q : QS) (i : Nat) : q.backsF (i + 1) = if (q.backsF i).2 ≠ 0 then q.backsF i else (q.backsF i).1.backF i := rfl
theorem Hq.backs (h : Hq q n K) : ∀ i, i ≤ q.l.length → Hq (q.backsF i).1 n (K + i) ∧ (q.backsF i).1.l.length = q.l.length
 | 0, _ => ⟨h, rfl⟩
 | i + 1, hi => by
  obtain ⟨h1, h2⟩ := h.backs i (by omega)
  rw [backs_s]
  split
  ·exact ⟨h1.more (by omega), h2⟩
  ·exact ⟨h1.back i (by omega), by rw [(back_l h1.f (by omega)).2, h2]⟩
theorem old_len (a : St) : (oldS a.old).length = a.old.length := by unfold oldS; rw [List.length_map]
theorem commit_len (a : St) (h : a.now.length ≤ 512) : a.commitF.1.now.length ≤ 512 := by
 unfold St.commitF
 split
 ·exact h
 ·show (oldS a.nextF).length ≤ 512
  unfold oldS
  rw [List.length_map]
  have := next_len a
  omega
theorem Hq.commit (h : Hq q n K) (hK : K ≤ 999999999000) : Hq q.commitF.1 n (K + 40) := by
 unfold QS.commitF
 obtain ⟨b1, b2⟩ := h.backs q.l.length (Nat.le_refl _)
 have l2 := h.l2
 split
 ·exact h.more (by omega)
 ·split
  ·exact b1.more (by omega)
  ·obtain ⟨c, z⟩ := b1.z
   have zc := (z.commit (z.tl b1.nl) (by omega)).1
   exact ⟨⟨_, zc.more (by omega)⟩, b1.f.more (by omega), b1.l1, b1.l2, b1.lh, commit_len _ b1.nl⟩
theorem Hq.abort (h : Hq q n K) : Hq q.abortF n K := by
 obtain ⟨c, z⟩ := h.z
 refine ⟨⟨_, z.abort⟩, fun f hf => ?_, by show 1 ≤ (List.replicate _ _).length; rw [List.length_replicate]; exact h.l1, by show (List.replicate _ _).length ≤ 32; rw [List.length_replicate]; exact h.l2, by show q.hand < (List.replicate _ _).length; rw [List.length_replicate]; exact h.lh, ?_⟩
 ·rw [List.eq_of_mem_replicate hf]
  exact Fb.nil
 ·show (oldS q.a.old).length ≤ 512
  rw [old_len]
  obtain ⟨k, e⟩ := z.e
  have := z.old
  rw [e]
  show (c.old.map _).length ≤ 512
  rw [List.length_map]
  exact this
theorem new_len (a : St) (p : List UInt8) (h : a.now.length ≤ 512) : (a.newF p).1.now.length ≤ 512 := by
 unfold St.newF
 split
 ·exact h
 ·split
  ·exact h
  ·rename_i hs
   show (putS a.now a.slot _).length ≤ 512
   unfold putS
   split
   ·rw [List.length_append]; simp; omega
   ·rw [List.length_set]; exact h
theorem Hq.new (h : Hq q n K) (p : List UInt8) : Hq (q.newF p).1 n (K + 1) := by
 obtain ⟨c, z⟩ := h.z
 exact ⟨⟨_, (z.new p).1⟩, h.f.more (by omega), h.l1, h.l2, h.lh, new_len _ _ h.nl⟩
end
end Go.Proofs.YtbelcgjbhpjnpaaGreat.Sh
