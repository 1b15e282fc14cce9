/- the reference's Fill. -/
import Derived.Test.YtmofbgcanehdoaaDisk7
import Derived.Test.YtmofbgcanehdoaaKit2
import Derived.Deep.Grids
import Derived.Deep.Slices
import Derived.Lib.SmallJoins
set_option maxRecDepth 100000
namespace Go.Proofs.Ytmofbgcanehdoaa.Dk
open Go.RowKit
attribute [local go_sem ↓] exec_app
theorem info_u8 : (Try.prog.info? 5).map (fun i => (i.zero, i.size, i.bytes)) = some (some (.int .u8 0), 1, 1) := by kernel_rfl
theorem fill_pad (l : List UInt8) (k : Nat) : (l ++ List.replicate (k - l.length) 0).take 64 = if 64 ≤ k then fillF l else (l ++ List.replicate (k - l.length) 0).take 64 := by
  split
  · apply List.ext_getElem?
    intro j
    unfold fillF
    by_cases h1 : j < 64
    · rw [List.getElem?_take_of_lt h1]
      by_cases h2 : j < l.length
      · rw [List.getElem?_append_left h2, List.getElem?_append_left (by simp; omega), List.getElem?_take_of_lt h1]
      · rw [List.getElem?_append_right (by omega), List.getElem?_append_right (by simp; omega), List.getElem?_replicate, List.getElem?_replicate, if_pos (by omega), if_pos (by simp; omega)]
    · rw [List.getElem?_eq_none (by simp; omega), List.getElem?_eq_none (by simp; omega)]
  · rfl
set_option maxHeartbeats 1000000 in
theorem fill_any (s : ByteArray) (w : World) (hs : s.size ≤ 1000000) :
    Calls Try.prog 45 #[.string s] w fun e w' => e = .returned (.string ⟨(fillF s.data.toList).toArray⟩) ∧ Below w.heap.size w w' := by
  obtain ⟨cap, w1, e1, S1, hb1⟩ := bytes_of_string (P := Try.prog) w 9 62 5 s Try.underlying9 Try.underlying62 Try.underlying5 (by unfold maxLen; omega)
  have E1 := Lib.hid e1
  clear e1
  go_enter Try.func45, Try.ntmps45
  go_wp2
  rw [E1.out]
  go_wp2
  go_loopw [3] (fun v wr => ∃ (k : Nat), s.size ≤ k ∧ (k ≤ 64 ∨ k = s.size) ∧ Slc wr 5 1 v k (bvs (s.data.toList ++ List.replicate (k - s.size) 0)) ∧ Below w.heap.size w wr ∧ Hid (∀ x ∈ ownB v, w.heap.size ≤ x)) (fun v _ => 64 - (match v with | .slice _ n _ => n | _ => 0))
  case atStart => exact ⟨s.size, Nat.le_refl _, .inr rfl, by simpa using S1, hb1, Lib.hid (by simp [ownB])⟩
  case round =>
    obtain ⟨k, hsk, hk, S, O, F⟩ := hrel
    obtain ⟨A, c, rfl⟩ := slc_val S
    by_cases h : k < 64
    · obtain ⟨v', w2, ea, S', O', F'⟩ := append_one (P := Try.prog) S 62 62 (.int .u8 0) 1 Try.underlying62 info_u8 rfl (.int .u8 0) rfl (by unfold maxLen; omega) (by omega)
      have F' := Lib.hid F'
      have el : bvs (s.data.toList ++ List.replicate (k - s.size) 0) ++ [.int .u8 0] = bvs (s.data.toList ++ List.replicate (k + 1 - s.size) 0) := by
        rw [show k + 1 - s.size = (k - s.size) + 1 by omega, List.replicate_succ']
        simp [bvs, bv]
      rw [el] at S'
      obtain ⟨A', c', rfl⟩ := slc_val S'
      clear el
      go_wp2
      go_roundw
      case rel => exact ⟨k + 1, by omega, by omega, S', O.trans (O'.below_of O.size F.out), Lib.hid fun x hx => (F'.out x hx).elim (F.out x) (fun h => Nat.le_trans O.size h)⟩
      case measure => simp; omega
    · obtain ⟨g, cap2, rest, hv, B, hcap, hrest⟩ := S.form (by omega) (by omega)
      simp only [Value.slice.injEq, true_and] at hv
      obtain ⟨rfl, rfl⟩ := hv
      have hfp := fill_pad s.data.toList k
      rw [if_pos (by omega)] at hfp
      have hlen : s.data.toList.length = s.size := by simp
      rw [hlen] at hfp
      have hst := run_string_of (P := Try.prog) wr 62 9 5 Try.underlying62 Try.underlying5 Try.underlying9 ⟨g, 0, none⟩ 64 c (fillF s.data.toList) (fillF_length _) (cells_at B 0 (bvs (fillF s.data.toList)) (by
        intro j u hu
        rw [← hfp, bvs_get] at hu
        have hj : j < 64 := by
          rcases Nat.lt_or_ge j 64 with h | h
          · exact h
          · rw [List.getElem?_eq_none (by simp; omega)] at hu; simp at hu
        rw [List.getElem?_take_of_lt hj] at hu
        have hj2 : j < (s.data.toList ++ List.replicate (k - s.size) (0 : UInt8)).length := by simp; omega
        rw [Nat.zero_add, List.getElem?_append_left (by simpa using hj2), bvs_get]
        exact hu))
      have HS := Lib.hid hst
      clear hst hfp hlen
      go_wp2
      rw [HS.out]
      go_wp2
      go_ret
      exact ⟨rfl, O⟩
end Go.Proofs.Ytmofbgcanehdoaa.Dk

/- what comes in to the statements of layer 10: a crash, a call, calls. -/
namespace Go.Proofs.Ytmofbgcanehdoaa.Dk
open Go.RowKit Go.Deep Go.ChangeShapes Go.WideShapes

theorem three_of {cs : List Value} (h : cs.length = 3) : ∃ a b c, cs = [a, b, c] := by
  match cs, h with
  | [a, b, c], _ => exact ⟨a, b, c, rfl⟩
theorem six_of {cs : List Value} (h : cs.length = 6) : ∃ a b c d e f, cs = [a, b, c, d, e, f] := by
  match cs, h with
  | [a, b, c, d, e, f], _ => exact ⟨a, b, c, d, e, f, rfl⟩
theorem crash_view {H : Type} {enc : TypeId × Value → H} {P : Program} {w : World} {t e : TypeId} {f0 f1 f2 : Field} {fuel : Nat} {cs : List Value} {x : DataW H × List MemPlace}
    (hs : P.underlying t = some (.struct #[f0, f1, f2])) (hC : P.cellsOf t = 3) (o0 : f0.offset = 0) (o1 : f1.offset = 1) (o2 : f2.offset = 2) (k0 : P.cellsOf f0.type = 1) (k1 : P.cellsOf f1.type = 1) (k2 : P.cellsOf f2.type = 1)
    (u0 : P.underlying f0.type = some (.slice e)) (ue : P.underlying e = some .bool) (ce : P.cellsOf e = 1) (u1 : P.underlying f1.type = some (.int .i64)) (u2 : P.underlying f2.type = some (.int .i64))
    (h : DataW.trod enc P w 0 (fun _ => true) true fuel t cs = some x) : ∃ C : Cr, cs = [.slice C.A C.m C.c, .int .i64 C.torn, .int .i64 C.bytes] ∧ C.At w ∧ C.m ≤ 9223372036854775807 := by
  obtain ⟨xs, n, _, _, hl, hxl, hf⟩ := DataW.trod_struct hs h
  obtain ⟨c0, c1, c2, rfl⟩ := three_of (hl.trans hC)
  obtain ⟨y0, y1, y2, rfl⟩ : ∃ y0 y1 y2, xs = [y0, y1, y2] := by
    match xs, hxl with
    | [a, b, c], _ => exact ⟨a, b, c, rfl⟩
  have g0 := hf 0 f0 rfl
  have g1 := hf 1 f1 rfl
  have g2 := hf 2 f2 rfl
  rw [o0, k0] at g0
  rw [o1, k1] at g1
  rw [o2, k2] at g2
  simp only [List.drop_zero, List.drop_succ_cons, List.take_succ_cons, List.take_zero] at g0 g1 g2
  obtain ⟨q1, hq1, _⟩ := DataW.trod_int u1 (x := y1) (by simpa using g1)
  obtain ⟨q2, hq2, _⟩ := DataW.trod_int u2 (x := y2) (by simpa using g2)
  simp only [List.cons.injEq, and_true] at hq1 hq2
  subst hq1 hq2
  rcases open_bools u0 ue ce (x := y0) (by simpa using g0) with ⟨h0, _⟩ | ⟨a, len, cap, B, h0, _, hlen, hcap, _, hB⟩
  · simp only [List.cons.injEq, and_true] at h0
    subst h0
    exact ⟨⟨none, 0, 0, fun _ => false, q1, q2⟩, rfl, fun i hi => absurd hi (Nat.not_lt_zero i), Nat.zero_le _⟩
  · simp only [List.cons.injEq, and_true] at h0
    subst h0
    exact ⟨⟨some a, len, cap, B, q1, q2⟩, rfl, fun i hi => ⟨a, rfl, hB i (Nat.lt_of_lt_of_le hi hlen)⟩, by show len ≤ _; unfold maxLen at hcap; omega⟩

/-- a call, as it comes in -/
structure Ac where
  kind : Int
  i : Int
  s : ByteArray
  C : Cr
def Ac.cells (a : Ac) : List Value := [.int .i64 a.kind, .int .i64 a.i, .string a.s, .slice a.C.A a.C.m a.C.c, .int .i64 a.C.torn, .int .i64 a.C.bytes]
theorem act_view {H : Type} {enc : TypeId × Value → H} {P : Program} {w : World} {t tc e : TypeId} {f0 f1 f2 f3 h0 h1 h2 : Field} {fuel : Nat} {cs : List Value} {x : DataW H × List MemPlace}
    (hs : P.underlying t = some (.struct #[f0, f1, f2, f3])) (hC : P.cellsOf t = 6) (o0 : f0.offset = 0) (o1 : f1.offset = 1) (o2 : f2.offset = 2) (o3 : f3.offset = 3) (k0 : P.cellsOf f0.type = 1) (k1 : P.cellsOf f1.type = 1) (k2 : P.cellsOf f2.type = 1) (k3 : P.cellsOf f3.type = 3)
    (u0 : P.underlying f0.type = some (.int .i64)) (u1 : P.underlying f1.type = some (.int .i64)) (u2 : P.underlying f2.type = some .string) (e3 : f3.type = tc)
    (hs' : P.underlying tc = some (.struct #[h0, h1, h2])) (q0 : h0.offset = 0) (q1 : h1.offset = 1) (q2 : h2.offset = 2) (l0 : P.cellsOf h0.type = 1) (l1 : P.cellsOf h1.type = 1) (l2 : P.cellsOf h2.type = 1)
    (v0 : P.underlying h0.type = some (.slice e)) (ue : P.underlying e = some .bool) (ce : P.cellsOf e = 1) (v1 : P.underlying h1.type = some (.int .i64)) (v2 : P.underlying h2.type = some (.int .i64))
    (h : DataW.trod enc P w 0 (fun _ => true) true fuel t cs = some x) : ∃ a : Ac, cs = a.cells ∧ a.C.At w ∧ a.C.m ≤ 9223372036854775807 ∧ a.s.size ≤ maxLen := by
  obtain ⟨xs, n, _, _, hl, hxl, hf⟩ := DataW.trod_struct hs h
  obtain ⟨c0, c1, c2, c3, c4, c5, rfl⟩ := six_of (hl.trans hC)
  obtain ⟨y0, y1, y2, y3, rfl⟩ : ∃ y0 y1 y2 y3, xs = [y0, y1, y2, y3] := by
    match xs, hxl with
    | [a, b, c, d], _ => exact ⟨a, b, c, d, rfl⟩
  have g0 := hf 0 f0 rfl
  have g1 := hf 1 f1 rfl
  have g2 := hf 2 f2 rfl
  have g3 := hf 3 f3 rfl
  rw [o0, k0] at g0
  rw [o1, k1] at g1
  rw [o2, k2] at g2
  rw [o3, k3, e3] at g3
  simp only [List.drop_zero, List.drop_succ_cons, List.take_succ_cons, List.take_zero] at g0 g1 g2 g3
  obtain ⟨r0, hr0, _⟩ := DataW.trod_int u0 (x := y0) (by simpa using g0)
  obtain ⟨r1, hr1, _⟩ := DataW.trod_int u1 (x := y1) (by simpa using g1)
  obtain ⟨r2, hr2, _, hsz⟩ := DataW.trod_string u2 (x := y2) (by simpa using g2)
  obtain ⟨C, hc, hA, hm⟩ := crash_view hs' (e3 ▸ k3) q0 q1 q2 l0 l1 l2 v0 ue ce v1 v2 (x := y3) (by simpa using g3)
  simp only [List.cons.injEq, and_true] at hr0 hr1 hr2 hc
  obtain ⟨rfl, rfl, rfl⟩ := hc
  subst hr0 hr1 hr2
  exact ⟨⟨r0, r1, r2, C⟩, rfl, hA, hm, hsz⟩
/-- a crash by value -/
theorem crash_of {H : Type} {enc : TypeId × Value → H} {w : World} {base : Nat} {v : Value} {d : DataW H} {ps : List MemPlace} (hok : Value.okWide Try.prog w .any base 48 v) (h : DataW.Trod enc Try.prog w 0 (fun _ => true) true 48 v d ps) :
    ∃ C : Cr, v = C.val ∧ C.At w ∧ C.m ≤ 9223372036854775807 := by
  obtain ⟨cs, rfl, hsz⟩ := okWide_struct Try.underlying48 hok
  obtain ⟨fuel, hf⟩ := h
  obtain ⟨C, h1, h2, h3⟩ := crash_view Try.underlying48 (by kernel_rfl) rfl rfl rfl (by kernel_rfl) (by kernel_rfl) (by kernel_rfl) Try.underlying46 Try.underlying4 (by kernel_rfl) Try.underlying3 Try.underlying3 (cs := cs.toList) (by simpa [Value.cells] using hf)
  refine ⟨C, ?_, h2, h3⟩
  unfold Cr.val
  congr 1
  exact Array.toList_inj.1 h1
end Go.Proofs.Ytmofbgcanehdoaa.Dk

/- what the statements of layer 10 share: awake. -/
namespace Go.Proofs.Ytmofbgcanehdoaa.Dk
open Go.RowKit
def awC : Cr := { A := none, m := 0, c := 0, kp := fun _ => false, torn := 0, bytes := 1 }
def aw1 : D := ((D.zero 2).writeF 2 0 [97, 97]).1
def aw2 : D := aw1.syncF.1
def aw3 : D := (aw2.writeF 2 0 [98, 98, 98]).1
def aw4 : D := aw3.crashF awC 2
theorem awC_at (w : World) : awC.At w := fun i hi => absurd hi (Nat.not_lt_zero i)
end Go.Proofs.Ytmofbgcanehdoaa.Dk

/- what a crash leaves of the loose sectors; a disk that is armed. -/
namespace Go.Proofs.Ytmofbgcanehdoaa.Dk
open Go.RowKit
theorem getD_setB (l : List Bool) (k : Nat) (x : Bool) (i : Nat) : (l.set k x).getD i false = if k = i ∧ k < l.length then x else l.getD i false := by
  simp only [List.getD, List.getElem?_set]
  by_cases h : k = i
  · subst h
    by_cases h2 : k < l.length
    · simp [h2]
    · simp [h2]
  · simp [h]
theorem crashTo_loose (C : Cr) (d : D) : ∀ i, (D.crashTo C d i).1.loose.length = d.loose.length ∧ ∀ j, (D.crashTo C d i).1.loose.getD j false = if j < i then false else d.loose.getD j false
  | 0 => ⟨rfl, fun j => by simp [D.crashTo]⟩
  | i + 1 => by
    obtain ⟨h1, h2⟩ := crashTo_loose C d i
    simp only [D.crashTo]
    cases hb : (D.crashTo C d i).1.loose.getD i false
    · simp only [Bool.false_eq_true, if_false]
      refine ⟨h1, fun j => ?_⟩
      rw [h2]
      by_cases hj : j < i
      · rw [if_pos hj, if_pos (by omega)]
      · rw [if_neg hj]
        by_cases hji : j = i
        · subst hji
          rw [if_pos (by omega)]
          rw [h2, if_neg (by omega)] at hb
          exact hb
        · rw [if_neg (by omega)]
    · simp only [if_true]
      refine ⟨by show (List.set _ _ _).length = _; rw [List.length_set]; exact h1, fun j => ?_⟩
      show (List.set _ _ _).getD _ _ = _
      rw [getD_setB, h2]
      by_cases hji : i = j
      · subst hji
        rw [if_pos (show i < i + 1 by omega)]
        split
        · rfl
        · rename_i h
          rw [if_neg (by omega)]
          have : ¬ i < (D.crashTo C d i).1.loose.length := fun h3 => h ⟨rfl, h3⟩
          simp only [List.getD]
          rw [List.getElem?_eq_none (by rw [h1] at this; omega)]; rfl
      · rw [if_neg (by omega)]
        by_cases hj : j < i
        · rw [if_pos hj, if_pos (by omega)]
        · rw [if_neg hj, if_neg (by omega)]
theorem crash_loose (C : Cr) (d : D) {n : Nat} (h : d.Ok n) : (d.crashF C n).loose = List.replicate n false := by
  obtain ⟨h1, h2⟩ := crashTo_loose C d n
  apply List.ext_getElem
  · show (D.crashTo C d n).1.loose.length = _
    rw [h1, h.loose]; simp
  · intro i h3 h4
    have h5 : i < n := by simpa using h4
    have := h2 i
    rw [if_pos h5] at this
    have h6 : i < (D.crashTo C d n).1.loose.length := h3
    simp only [List.getD, List.getElem?_eq_getElem h6, Option.getD_some] at this
    rw [List.getElem_replicate]; exact this
theorem count_false (n : Nat) : (List.replicate n false).count true = 0 := by
  rw [List.count_eq_zero]; simp

/-- so many calls have counted of a disk that is armed for its k-th -/
structure Armed (d : D) (k i : Nat) : Prop where
  ok : d.Ok 9
  up : d.down = false
  armed : d.armed = (k : Int) - i
  calls : d.calls = i
  cnt : d.loose.count true = i
  rest : ∀ j, i < j → d.loose.getD j false = false
theorem count_set (l : List Bool) (i : Nat) (h : i < l.length) (hf : l.getD i false = false) : (l.set i true).count true = l.count true + 1 := by
  have e1 : l = l.take i ++ l[i] :: l.drop (i + 1) := by simp
  have e2 : l.set i true = l.take i ++ true :: l.drop (i + 1) := by rw [List.set_eq_take_append_cons_drop, if_pos h]
  have e3 : l[i] = false := by simpa [List.getD, List.getElem?_eq_getElem h] using hf
  rw [e2]
  conv => rhs; rw [e1]
  rw [e3, List.count_append, List.count_append, List.count_cons, List.count_cons]
  simp; omega
theorem Armed.step {d : D} {k i : Nat} (h : Armed d k i) (hi : i + 1 < k) (hk : k ≤ 6) (s : List UInt8) : (d.writeF 9 ((i + 1 : Nat) : Int) s).2 = 0 ∧ Armed (d.writeF 9 ((i + 1 : Nat) : Int) s).1 k (i + 1) := by
  have ha : d.atF 9 ((i + 1 : Nat) : Int) = 0 := by unfold D.atF; rw [h.up]; simp; omega
  have hl := h.rest (i + 1) (by omega)
  have hL := h.ok.loose
  have hkp : d.keepF (i + 1) = { d with old := setSec d.old (i + 1) (sec d.now (i + 1)), loose := d.loose.set (i + 1) true } := by unfold D.keepF; rw [hl]; rfl
  have har := h.armed
  have hw := h.ok.write ((i + 1 : Nat) : Int) s
  unfold D.writeF at *
  rw [if_pos ha] at *
  simp only [Int.toNat_natCast] at *
  have e1 : (d.putF (i + 1) s).armed = d.armed := by unfold D.putF; rw [hkp]
  have e2 : (d.putF (i + 1) s).loose = d.loose.set (i + 1) true := by unfold D.putF; rw [hkp]
  have e3 : (d.putF (i + 1) s).calls = d.calls := by unfold D.putF; rw [hkp]
  generalize d.putF (i + 1) s = p at *
  have hc : p.countF = ({ p with calls := p.calls + 1, armed := p.armed - 1, down := false }, 0) := by
    unfold D.countF; rw [if_neg (by omega), if_neg (by omega)]
  rw [hc] at hw ⊢
  refine ⟨rfl, ⟨hw, rfl, ?_, ?_, ?_, ?_⟩⟩
  · show p.armed - 1 = _; rw [e1, har]; omega
  · show p.calls + 1 = _; rw [e3, h.calls]; omega
  · show p.loose.count true = _; rw [e2, count_set _ _ (by omega) hl, h.cnt]
  · intro j hj
    show p.loose.getD j false = false
    rw [e2, getD_setB, if_neg (by omega)]
    exact h.rest j (by omega)
theorem Armed.start (k : Nat) : Armed { D.zero 9 with armed := k } k 0 :=
  ⟨⟨List.length_replicate, List.length_replicate, List.length_replicate, by omega, by show (0 : Int) ≤ k; omega, Int.le_refl 0⟩, rfl, by show (k : Int) = _; omega, rfl, by show (List.replicate 9 false).count true = 0; exact count_false 9, fun j _ => by
    show (List.replicate 9 false).getD j false = false
    simp only [List.getD, List.getElem?_replicate]; split <;> rfl⟩
/-- the call for which the disk is armed -/
theorem Armed.last {d : D} {k i : Nat} (h : Armed d k i) (hi : i + 1 = k) : d.syncF = ({ d with calls := k, armed := 0, down := true }, 13) := by
  have ha : d.armed = 1 := by rw [h.armed]; omega
  have hc : d.countF = ({ d with calls := d.calls + 1, armed := 0, down := true }, 13) := by unfold D.countF; rw [if_neg (by omega), if_pos ha]
  unfold D.syncF
  rw [h.up, if_neg (by simp), hc, if_neg (by simp)]
  congr 2
  rw [h.calls]; omega
end Go.Proofs.Ytmofbgcanehdoaa.Dk

/- disk by its contracts: Of. -/
namespace Go.Proofs.Ytmofbgcanehdoaa.Dk
open Go.RowKit
attribute [local go_sem ↓] exec_ld exec_st exec_zero

/-- a disk of an image, so many sectors of it laid -/
def imgTo (s : List UInt8) (n k : Nat) : D := { D.zero n with now := s.take (64 * k) ++ List.replicate (64 * n - (s.take (64 * k)).length) 0 }
def imgF (s : List UInt8) (n : Nat) : D := { D.zero n with now := s ++ List.replicate (64 * n - s.length) 0 }
def sectorsF (s : List UInt8) : Nat := (s.length + 63) / 64
theorem imgTo_zero (s : List UInt8) (n : Nat) : imgTo s n 0 = D.zero n := by simp [imgTo, D.zero]
theorem imgTo_all (s : List UInt8) : imgTo s (sectorsF s) (sectorsF s) = imgF s (sectorsF s) := by
  unfold imgTo imgF
  rw [List.take_of_length_le (by unfold sectorsF; omega)]
theorem imgTo_step (s : List UInt8) (k : Nat) (hk : k < sectorsF s) : lay (imgTo s (sectorsF s) k).now (64 * k) ((s.drop (64 * k)).take 64) = (imgTo s (sectorsF s) (k + 1)).now := by
  unfold sectorsF at *
  have e1 : (s.take (64 * k)).length = 64 * k := by simp; omega
  have e2 : s.take (64 * (k + 1)) = s.take (64 * k) ++ (s.drop (64 * k)).take 64 := by rw [show 64 * (k + 1) = 64 * k + 64 by omega, List.take_add]
  show lay (s.take (64 * k) ++ List.replicate (64 * _ - (s.take (64 * k)).length) 0) _ _ = s.take (64 * (k + 1)) ++ List.replicate (64 * _ - (s.take (64 * (k + 1))).length) 0
  rw [e2]
  generalize hA : s.take (64 * k) = A at *
  generalize (s.drop (64 * k)).take 64 = c at *
  unfold lay
  rw [List.take_append_of_le_length (by omega), List.take_of_length_le (by omega), List.length_append, e1, ← e1, List.drop_append, List.drop_of_length_le (by omega), List.nil_append, List.drop_replicate, e1]
  congr 2
  omega
theorem imgTo_len (s : List UInt8) (k : Nat) : (imgTo s (sectorsF s) k).now.length = 64 * sectorsF s := by
  unfold sectorsF imgTo; simp; omega
theorem img_copy {w : World} {L : Loc} {s : ByteArray} {k : Nat} (h : DiskAt w L (sectorsF s.data.toList) (imgTo s.data.toList (sectorsF s.data.toList) k)) (hk : k < sectorsF s.data.toList) (t : ByteArray) (ht : t.data.toList = s.data.toList.drop (64 * k)) :
    ∃ w2, (Builtin.copy_ #[62, 9] 3 #[.slice (some ⟨L.gN, k * 64, none⟩) 64 64, .string t]).run Try.prog w = .ok (goInt (Nat.min t.size 64)) w2 ∧ DiskAt w2 L (sectorsF s.data.toList) (imgTo s.data.toList (sectorsF s.data.toList) (k + 1)) ∧ Only [L.gN] w w2 := by
  have hlen := imgTo_len s.data.toList k
  obtain ⟨w2, e2, B2, o⟩ := copy_string (P := Try.prog) h.hN 62 9 3 5 (k * 64) 64 64 t (Nat.min t.size 64) Try.underlying62 size_u8 rfl (by simp only [bvs, List.length_map, hlen]; have hm : Nat.min t.size 64 ≤ 64 := Nat.min_le_right _ _; omega)
  have e : t.data.toList.take (Nat.min t.size 64) = (s.data.toList.drop (64 * k)).take 64 := by
    rw [← ht]
    rcases Nat.le_total t.size 64 with h | h
    · rw [show Nat.min t.size 64 = t.size from Nat.min_eq_left h, List.take_of_length_le (by simp), List.take_of_length_le (by simpa using h)]
    · rw [show Nat.min t.size 64 = 64 from Nat.min_eq_right h]
  rw [e, bvs_lay, show k * 64 = 64 * k from Nat.mul_comm _ _, imgTo_step _ _ hk] at B2
  exact ⟨w2, e2, ⟨h.hb.only o (by simp; exact h.bN), B2, h.hO.only o (by simp; exact fun e => h.ne e.symm), h.hL.only o (by simp; exact h.LN), h.ne, ⟨imgTo_len _ _, h.ok.old, h.ok.loose, h.ok.small, h.ok.armed, h.ok.calls⟩⟩, o⟩
theorem img_crash (C : Cr) (s : List UInt8) (n : Nat) : (imgF s n).crashF C n = imgF s n := by
  have h : ∀ k, D.crashTo C (imgF s n) k = (imgF s n, 0) := by
    intro k
    induction k with
    | zero => rfl
    | succ k ih =>
      rw [D.crashTo, ih, if_neg]
      show ¬ (List.replicate n false).getD k false = true
      simp only [List.getD, List.getElem?_replicate]
      split <;> simp
  unfold D.crashF
  rw [h]; rfl
theorem take_sec (F : List UInt8) (i : Nat) : F.take (64 * i) ++ sec F i = F.take (64 * (i + 1)) := by
  rw [show 64 * (i + 1) = 64 * i + 64 by omega, List.take_add]; rfl
theorem img_read (s : List UInt8) (n i : Nat) (hi : i < n) : (imgF s n).readF n i = (sec (imgF s n).now i, 0) := by
  have ha : (imgF s n).atF n i = 0 := by
    unfold D.atF
    rw [if_neg (by simp [imgF, D.zero]), if_pos (by omega)]
  unfold D.readF
  rw [if_pos ha]; rfl
end Go.Proofs.Ytmofbgcanehdoaa.Dk
