/- a healthy store beside the document's: what each call leaves, plainly; a pool plainly. -/
import Derived.Test.YtbelcgjbhpjnpaaGreatPc
import Derived.Test.YtbelcgjbhpjnpaaGreatSm12
import Derived.Test.YtbelcgjbhpjnpaaGreatW5
import Derived.Test.YtbelcgjbhpjnpaaGreatTb
set_option linter.all false
set_option linter.unusedVariables false
set_option linter.unusedSimpArgs false
namespace Go.Proofs.YtbelcgjbhpjnpaaGreat.Sh
open Go.RowKit Pk Dk Pg
/-- a store whose document's state is a, behind K calls -/
structure Zc (c : C) (n : Nat) (a : St) (K : Nat) : Prop where
 g : Good c n
 R : Rooted c.d n c.ep c.slot c.old c.parts
 e : ∃ k, a = (c.absF n).pad k
 bc : c.d.calls ≤ 40 * K
 be : c.ep ≤ K
section
variable {c : C} {n : Nat} {a : St} {K : Nat}
theorem Zc.more (z : Zc c n a K) {K' : Nat} (h : K ≤ K') : Zc c n a K' := ⟨z.g, z.R, z.e, by have := z.bc; omega, by have := z.be; omega⟩
theorem Zc.read (z : Zc c n a K) (l : Int) : c.readF n l = a.readF l := by
 obtain ⟨k, e⟩ := z.e
 rw [read_good z.g, e]
 unfold St.readF
 rw [pad_at]
theorem Zc.ep0 (z : Zc c n a K) (hK : K ≤ 1000000000000) : 0 ≤ c.ep ∧ c.ep ≤ 1099511627776 := by have := z.g.ep; omega
theorem Zc.calls (z : Zc c n a K) (hK : K ≤ 1000000000000) : c.d.calls ≤ 3999999999999999900 ∧ c.d.armed ≤ 9223372036854775807 := by
 have := z.bc
 have := z.g.arm
 constructor <;> omega
theorem Zc.tab (z : Zc c n a K) (k : Nat) : c.table.getD k 0 ≤ 1024 := by
 have hm : c.m.length ≤ 1024 := by rw [z.g.ml]; unfold pagesF; omega
 by_cases hk : k < c.table.length
 ·simp only [List.getD, List.getElem?_eq_getElem hk, Option.getD_some]
  have := z.g.ti _ (List.getElem_mem hk)
  omega
 ·simp only [List.getD]
  rw [List.getElem?_eq_none (by omega)]
  show (0 : Int) ≤ 1024
  omega
theorem Zc.new (z : Zc c n a K) (p : List UInt8) : Zc (c.newF n p).1 n (a.newF p).1 (K + 1) ∧ (c.newF n p).2 = (a.newF p).2 := by
 obtain ⟨k, ek⟩ := z.e
 obtain ⟨k', ep⟩ := pad_new (c.absF n) k p
 rw [← ek] at ep
 obtain ⟨g1, g2, g3, g4, g5, g6⟩ := new_good z.g p
 have hfl := new_fields c n p
 exact ⟨⟨g1, by rw [hfl.1, hfl.2.1, hfl.2.2.1, hfl.2.2.2.1]; exact new_rooted z.g z.R _, ⟨k', by rw [ep, g2]⟩, by have := z.bc; omega, by rw [hfl.2.2.1]; have := z.be; omega⟩, by rw [ep]; exact g3⟩
theorem Zc.write (z : Zc c n a K) (l : Int) (p : List UInt8) : Zc (c.writeF n l p).1 n (a.writeF l p).1 (K + 1) ∧ (c.writeF n l p).2 = (a.writeF l p).2 := by
 obtain ⟨k, ek⟩ := z.e
 have ep := pad_write (c.absF n) k l p
 rw [← ek] at ep
 obtain ⟨g1, g2, g3, g4⟩ := write_good z.g l p
 have hfl := write_fields c n l p
 exact ⟨⟨g1, by rw [hfl.1, hfl.2.1, hfl.2.2.1, hfl.2.2.2.1]; exact write_rooted z.g z.R _ _, ⟨k, by rw [ep, g2]⟩, by have := z.bc; omega, by rw [hfl.2.2.1]; have := z.be; omega⟩, by rw [ep]; exact g3⟩
theorem Zc.drop (z : Zc c n a K) (l : Int) : Zc (c.dropF l).1 n (a.dropF l).1 K ∧ (c.dropF l).2 = (a.dropF l).2 := by
 obtain ⟨k, ek⟩ := z.e
 have ep := pad_drop (c.absF n) k l
 rw [← ek] at ep
 obtain ⟨g1, g2, g3, g4, g5, g6⟩ := drop_good z.g l
 have hfl : (c.dropF l).1.ep = c.ep ∧ (c.dropF l).1.slot = c.slot := by
  unfold C.dropF
  split <;> exact ⟨rfl, rfl⟩
 exact ⟨⟨g1, by rw [g4, g5, g6, hfl.1, hfl.2]; exact z.R, ⟨k, by rw [ep, g2]⟩, by rw [g4]; exact z.bc, by rw [hfl.1]; exact z.be⟩, by rw [ep]; exact g3⟩
theorem Zc.abort (z : Zc c n a K) : Zc c.abortF n { a with now := oldS a.old } K := by
 obtain ⟨k, ek⟩ := z.e
 obtain ⟨g1, g2, g3⟩ := abort_good z.g
 exact ⟨g1, by show Rooted c.d n c.ep c.slot c.old c.parts; exact z.R, ⟨0, by rw [pad_zero, g2, ek]; rfl⟩, z.bc, z.be⟩
theorem Zc.old (z : Zc c n a K) : c.old.length ≤ 512 := by have := z.R.ro.2.2.2.1; omega
theorem Zc.commit (z : Zc c n a K) (tl : c.table.length ≤ 512) (hK : K ≤ 1000000000000) : Zc (c.commitF n).1 n a.commitF.1 (K + 1) ∧ (c.commitF n).2 = a.commitF.2 := by
 obtain ⟨k, ek⟩ := z.e
 have hbe := z.be
 have hae2 : a.free = (c.absF n).free := by rw [ek, pad_free]
 have hnx : a.nextF = (c.absF n).nextF := by rw [ek, pad_next]
 by_cases hf : (c.absF n).free < needT (c.absF n).nextF.length
 ·rw [commit_full z.g hf, show a.commitF = (a, 11) by unfold St.commitF; rw [hae2, hnx, if_pos hf]]
  obtain ⟨t1, t2⟩ := trim_good z.g
  exact ⟨⟨t1, by show Rooted c.d n c.ep c.slot c.old c.parts; exact z.R, ⟨_, by rw [ek, t2, pad_pad]⟩, by show c.d.calls ≤ _; have := z.bc; omega, by show c.ep ≤ _; omega⟩, rfl⟩
 ·obtain ⟨c', d1, d2, d3, d4, d5, d6, d7, d8⟩ := commit_good z.g z.R (by omega) tl hf
  rw [d1, show a.commitF = ({ a with now := oldS a.nextF, old := a.nextF, ep := a.ep + 1 }, 0) by unfold St.commitF; rw [hae2, hnx, if_neg hf]]
  exact ⟨⟨d2, d3, ⟨0, by rw [pad_zero, d6, hnx, ek]; rfl⟩, by show c'.d.calls ≤ _; have := z.bc; omega, by show c'.ep ≤ _; rw [d8]; omega⟩, rfl⟩
end
section
variable {w : World} {x : X} {c : C} {n : Nat} {a : St} {K : Nat}
theorem zwrite_any (h : At w x n c) (z : Zc c n a K) (hK : K ≤ 1000000000000) (l : Int) (s : ByteArray) (hs : s.size ≤ 9223372036854775807) :
  Calls Tryz.prog 32 #[sp x.b, .int .i64 l, .string s] w fun e w' => e = .returned (.int .i64 (a.writeF l s.data.toList).2) ∧ ∃ c', At w' x n c' ∧ Zc c' n (a.writeF l s.data.toList).1 (K + 1) ∧ Only x.fp w w' := by
 have zw := z.write l s.data.toList
 rw [← zw.2]
 exact (swrite_any h l s hs (z.ep0 hK) (by have := (z.calls hK).1; omega) (z.calls hK).2 z.tab).mono fun e w' ⟨r, A, o⟩ => ⟨r, _, A, zw.1, o⟩
theorem zread_any (h : At w x n c) (z : Zc c n a K) (l : Int) :
  Calls Tryz.prog 29 #[sp x.b, .int .i64 l] w fun e w' => e = .returned (.tuple #[.string ⟨(a.readF l).1.toArray⟩, .int .i64 (a.readF l).2]) ∧ Below w.heap.size w w' := by
 rw [← z.read l]
 exact Sh.read_any h l
theorem znew_any (h : At w x n c) (z : Zc c n a K) (hK : K ≤ 1000000000000) (s : ByteArray) (hs : s.size ≤ 9223372036854775807) :
  Calls Tryz.prog 28 #[sp x.b, .string s] w fun e w' => e = .returned (.tuple #[.int .i64 (a.newF s.data.toList).2.1, .int .i64 (a.newF s.data.toList).2.2]) ∧ ∃ c', Post w w' x n c' ∧ Zc c' n (a.newF s.data.toList).1 (K + 1) := by
 have zn := z.new s.data.toList
 rw [← zn.2]
 exact (new_any h s hs (z.ep0 hK) (by have := (z.calls hK).1; omega) (z.calls hK).2).mono fun e w' ⟨r, p⟩ => ⟨r, _, p, zn.1⟩
theorem zdrop_any (h : At w x n c) (z : Zc c n a K) (l : Int) :
  Calls Tryz.prog 33 #[sp x.b, .int .i64 l] w fun e w' => e = .returned (.int .i64 (a.dropF l).2) ∧ ∃ c', At w' x n c' ∧ Zc c' n (a.dropF l).1 K ∧ Only x.fp w w' := by
 have zd := z.drop l
 rw [← zd.2]
 exact (drop_any h l).mono fun e w' ⟨r, A, o⟩ => ⟨r, _, A, zd.1, o⟩
theorem zabort_any (h : At w x n c) (z : Zc c n a K) :
  Calls Tryz.prog 35 #[sp x.b] w fun e w' => e = .returned (.bool true) ∧ ∃ c', Post w w' x n c' ∧ Zc c' n { a with now := oldS a.old } K :=
 (sabort_any h z.old).mono fun e w' ⟨r, p⟩ => ⟨r, _, p, z.abort⟩
theorem zcommit_any (h : At w x n c) (z : Zc c n a K) (hK : K ≤ 1000000000000) :
  Calls Tryz.prog 34 #[sp x.b] w fun e w' => e = .returned (.int .i64 a.commitF.2) ∧ ∃ c', Post w w' x n c' ∧ Zc c' n a.commitF.1 (K + 1) := by
 have hm : c.m.length ≤ 1024 := by rw [z.g.ml]; unfold pagesF; omega
 have zc := z.commit h.tl hK
 rw [← zc.2]
 exact (scommit_any h z.g.br (z.ep0 hK).1 (fun y hy => by have := z.g.ti y hy; omega) z.g.sl (z.calls hK).1 (z.calls hK).2 (Rt.rightR_len z.R.ro) (fun hf he => by
  obtain ⟨mT, P, e, _, _, _, _, _, t6, t7⟩ := commit_takes z.g h.tl hf
  rw [e]
  exact ⟨by rw [t6]; exact t7, t6⟩)).mono fun e w' ⟨r, p⟩ => ⟨r, _, p, zc.1⟩
end
/-! a pool, plainly -/
/-- a pool over the document's store -/
structure QS where
 a : St
 l : List Fr
 hand : Nat
def QS.ps (q : QS) (c : C) : PS := ⟨c, q.l, q.hand⟩
def QS.turn (s : QS) : QS := { s with hand := (s.hand + 1) % s.l.length }
def QS.spin : Nat → QS → QS × Int
 | 0, s => (s, -1)
 | m + 1, s =>
  if 0 < (frD s.l s.hand).held then QS.spin m s.turn
  else if (frD s.l s.hand).used = true then QS.spin m { s.turn with l := s.l.set s.hand { frD s.l s.hand with used := false } }
  else (s.turn, (s.hand : Int))
def QS.victimF (s : QS) : QS × Int :=
 if 0 ≤ ixF (fun f => decide (f.page < 0)) s.l then (s, ixF (fun f => decide (f.page < 0)) s.l) else s.spin (2 * s.l.length + 1)
def QS.backF (s : QS) (k : Nat) : QS × Int :=
 if (frD s.l k).dirty = true then
  if (s.a.writeF (frD s.l k).page (frD s.l k).pay.data.toList).2 = 0 then ({ s with a := (s.a.writeF (frD s.l k).page (frD s.l k).pay.data.toList).1, l := s.l.set k { frD s.l k with dirty := false } }, 0)
  else ({ s with a := (s.a.writeF (frD s.l k).page (frD s.l k).pay.data.toList).1 }, (s.a.writeF (frD s.l k).page (frD s.l k).pay.data.toList).2)
 else (s, 0)
def QS.holdF (s : QS) (p : Int) : QS × ByteArray × Int :=
 if 0 ≤ findF s.l p then
  ({ s with l := s.l.set (findF s.l p).toNat { frD s.l (findF s.l p).toNat with held := (frD s.l (findF s.l p).toNat).held + 1, used := true } }, (frD s.l (findF s.l p).toNat).pay, 0)
 else if (s.a.readF p).2 ≠ 0 then (s, ⟨#[]⟩, (s.a.readF p).2)
 else if s.victimF.2 < 0 then (s.victimF.1, ⟨#[]⟩, 12)
 else if (s.victimF.1.backF s.victimF.2.toNat).2 ≠ 0 then ((s.victimF.1.backF s.victimF.2.toNat).1, ⟨#[]⟩, (s.victimF.1.backF s.victimF.2.toNat).2)
 else ({ (s.victimF.1.backF s.victimF.2.toNat).1 with l := (s.victimF.1.backF s.victimF.2.toNat).1.l.set s.victimF.2.toNat ⟨p, ⟨(s.a.readF p).1.toArray⟩, 1, false, true⟩ }, ⟨(s.a.readF p).1.toArray⟩, 0)
def QS.heldF (s : QS) (p : Int) : Option (Nat × Fr) :=
 if findF s.l p < 0 then none else match s.l[(findF s.l p).toNat]? with
  | none => none
  | some f => if f.held = 0 then none else some ((findF s.l p).toNat, f)
def QS.letF (s : QS) (p : Int) : QS × Int := match s.heldF p with
 | none => (s, 16)
 | some (k, f) => ({ s with l := s.l.set k { f with held := f.held - 1 } }, 0)
def fullB (s : ByteArray) : ByteArray := ⟨(padL s.data.toList 232).toArray⟩
def QS.setF (s : QS) (p : Int) (b : ByteArray) : QS × Int :=
 if 232 < b.size then (s, 4) else match s.heldF p with
 | none => (s, 16)
 | some (k, f) => ({ s with l := s.l.set k { f with pay := fullB b, dirty := true, used := true } }, 0)
def QS.getF (s : QS) (p : Int) : QS × ByteArray × Int :=
 if (s.holdF p).2.2 ≠ 0 then ((s.holdF p).1, ⟨#[]⟩, (s.holdF p).2.2) else (((s.holdF p).1.letF p).1, (s.holdF p).2.1, 0)
def QS.putF (s : QS) (p : Int) (b : ByteArray) : QS × Int :=
 if 232 < b.size then (s, 4) else if (s.holdF p).2.2 ≠ 0 then ((s.holdF p).1, (s.holdF p).2.2) else ((((s.holdF p).1.setF p b).1.letF p).1, 0)
def QS.dropF (s : QS) (p : Int) : QS × Int :=
 if 0 ≤ findF s.l p ∧ 0 < (frD s.l (findF s.l p).toNat).held then (s, 16)
 else if (s.a.dropF p).2 ≠ 0 then ({ s with a := (s.a.dropF p).1 }, (s.a.dropF p).2)
 else if 0 ≤ findF s.l p then ({ s with a := (s.a.dropF p).1, l := s.l.set (findF s.l p).toNat Fr.nil }, 0)
 else ({ s with a := (s.a.dropF p).1 }, 0)
def QS.evictF (s : QS) (i : Int) : QS × Int :=
 if i < 0 ∨ (s.l.length : Int) ≤ i then (s, 3)
 else if (frD s.l i.toNat).page < 0 then (s, 0)
 else if 0 < (frD s.l i.toNat).held then (s, 16)
 else if (s.backF i.toNat).2 ≠ 0 then s.backF i.toNat
 else ({ (s.backF i.toNat).1 with l := (s.backF i.toNat).1.l.set i.toNat Fr.nil }, 0)
def QS.heldN (s : QS) : Nat := s.l.countP fun f => decide (0 < f.held)
/-- the first k frames are written back -/
def QS.backsF (s : QS) : Nat → QS × Int
 | 0 => (s, 0)
 | k + 1 => if (s.backsF k).2 ≠ 0 then s.backsF k else (s.backsF k).1.backF k
def QS.commitF (s : QS) : QS × Int :=
 if 0 < s.heldN then (s, 16)
 else if (s.backsF s.l.length).2 ≠ 0 then s.backsF s.l.length
 else ({ (s.backsF s.l.length).1 with a := (s.backsF s.l.length).1.a.commitF.1 }, (s.backsF s.l.length).1.a.commitF.2)
def QS.abortF (s : QS) : QS := { s with a := { s.a with now := oldS s.a.old }, l := List.replicate s.l.length Fr.nil }
def QS.newF (s : QS) (p : List UInt8) : QS × Int × Int := ({ s with a := (s.a.newF p).1 }, (s.a.newF p).2)
/-! the same spin -/
theorem spin_ps (c : C) : ∀ (m : Nat) (q : QS), (q.ps c).spin m = ((q.spin m).1.ps c, (q.spin m).2)
 | 0, _ => rfl
 | m + 1, q => by
  unfold PS.spin QS.spin
  show (if 0 < (frD q.l q.hand).held then _ else _) = _
  split
  ·exact spin_ps c m q.turn
  ·show (if (frD q.l q.hand).used = true then _ else _) = _
   split
   ·exact spin_ps c m { q.turn with l := q.l.set q.hand { frD q.l q.hand with used := false } }
   ·rfl
theorem victim_ps (c : C) (q : QS) : (q.ps c).victimF = (q.victimF.1.ps c, q.victimF.2) := by
 unfold PS.victimF QS.victimF
 show (if 0 ≤ ixF (fun f => decide (f.page < 0)) q.l then _ else _) = _
 split
 ·rfl
 ·exact spin_ps c _ q
theorem held_ps (c : C) (q : QS) (p : Int) : (q.ps c).heldF p = q.heldF p := rfl
theorem let_ps (c : C) (q : QS) (p : Int) : (q.ps c).letF p = ((q.letF p).1.ps c, (q.letF p).2) := by
 unfold PS.letF QS.letF
 rw [held_ps]
 cases q.heldF p with
 | none => rfl
 | some kf => rfl
theorem spin_a : ∀ (m : Nat) (q : QS), (q.spin m).1.a = q.a ∧ (q.spin m).1.l.length = q.l.length
 | 0, _ => ⟨rfl, rfl⟩
 | m + 1, q => by
  unfold QS.spin
  split
  ·exact spin_a m q.turn
  ·split
   ·have h := spin_a m { q.turn with l := q.l.set q.hand { frD q.l q.hand with used := false } }
    exact ⟨h.1, by rw [h.2, List.length_set]⟩
   ·exact ⟨rfl, rfl⟩
theorem victim_a (q : QS) : q.victimF.1.a = q.a ∧ q.victimF.1.l.length = q.l.length := by
 unfold QS.victimF
 split
 ·exact ⟨rfl, rfl⟩
 ·exact spin_a _ q
end Go.Proofs.YtbelcgjbhpjnpaaGreat.Sh
