/- what comes in to the statements of layer 10: a crash, a call, calls. -/
import Derived.Test.YtclompapmbhijaaDiskFill
import Derived.Deep.Grids
import Derived.Deep.Slices
import Derived.Lib.SmallJoins
namespace Go.Proofs.Ytclompapmbhijaa.Dk
open Go.RowKit Go.Deep Go.ChangeShapes Go.WideShapes

theorem three_of {cs : List Value} (h : cs.length = 3) : ∃ a b c, cs = [a, b, c] := by
  match cs, h with
  | [a, b, c], _ => exact ⟨a, b, c, rfl⟩
theorem six_of {cs : List Value} (h : cs.length = 6) : ∃ a b c d e f, cs = [a, b, c, d, e, f] := by
  match cs, h with
  | [a, b, c, d, e, f], _ => exact ⟨a, b, c, d, e, f, rfl⟩
theorem crash_view {H : Type} {enc : TypeId × Value → H} {P : Program} {w : World} {t e : TypeId} {f0 f1 f2 : Field} {fuel : Nat} {cs : List Value} {x : DataW H × List MemPlace}
    (hs : P.underlying t = some (.struct #[f0, f1, f2])) (hC : P.cellsOf t = 3) (o0 : f0.offset = 0) (o1 : f1.offset = 1) (o2 : f2.offset = 2) (k0 : P.cellsOf f0.type = 1) (k1 : P.cellsOf f1.type = 1) (k2 : P.cellsOf f2.type = 1)
    (u0 : P.underlying f0.type = some (.slice e)) (ue : P.underlying e = some .bool) (ce : P.cellsOf e = 1) (u1 : P.underlying f1.type = some (.int .i64)) (u2 : P.underlying f2.type = some (.int .i64))
    (h : DataW.trod enc P w 0 (fun _ => true) true fuel t cs = some x) : ∃ C : Cr, cs = [.slice C.A C.m C.c, .int .i64 C.torn, .int .i64 C.bytes] ∧ C.At w ∧ C.m ≤ 9223372036854775807 := by
  obtain ⟨xs, n, _, _, hl, hxl, hf⟩ := DataW.trod_struct hs h
  obtain ⟨c0, c1, c2, rfl⟩ := three_of (hl.trans hC)
  obtain ⟨y0, y1, y2, rfl⟩ : ∃ y0 y1 y2, xs = [y0, y1, y2] := by
    match xs, hxl with
    | [a, b, c], _ => exact ⟨a, b, c, rfl⟩
  have g0 := hf 0 f0 rfl
  have g1 := hf 1 f1 rfl
  have g2 := hf 2 f2 rfl
  rw [o0, k0] at g0
  rw [o1, k1] at g1
  rw [o2, k2] at g2
  simp only [List.drop_zero, List.drop_succ_cons, List.take_succ_cons, List.take_zero] at g0 g1 g2
  obtain ⟨q1, hq1, _⟩ := DataW.trod_int u1 (x := y1) (by simpa using g1)
  obtain ⟨q2, hq2, _⟩ := DataW.trod_int u2 (x := y2) (by simpa using g2)
  simp only [List.cons.injEq, and_true] at hq1 hq2
  subst hq1 hq2
  rcases open_bools u0 ue ce (x := y0) (by simpa using g0) with ⟨h0, _⟩ | ⟨a, len, cap, B, h0, _, hlen, hcap, _, hB⟩
  · simp only [List.cons.injEq, and_true] at h0
    subst h0
    exact ⟨⟨none, 0, 0, fun _ => false, q1, q2⟩, rfl, fun i hi => absurd hi (Nat.not_lt_zero i), Nat.zero_le _⟩
  · simp only [List.cons.injEq, and_true] at h0
    subst h0
    exact ⟨⟨some a, len, cap, B, q1, q2⟩, rfl, fun i hi => ⟨a, rfl, hB i (Nat.lt_of_lt_of_le hi hlen)⟩, by show len ≤ _; unfold maxLen at hcap; omega⟩

/-- a call, as it comes in -/
structure Ac where
  kind : Int
  i : Int
  s : ByteArray
  C : Cr
def Ac.cells (a : Ac) : List Value := [.int .i64 a.kind, .int .i64 a.i, .string a.s, .slice a.C.A a.C.m a.C.c, .int .i64 a.C.torn, .int .i64 a.C.bytes]
theorem act_view {H : Type} {enc : TypeId × Value → H} {P : Program} {w : World} {t tc e : TypeId} {f0 f1 f2 f3 h0 h1 h2 : Field} {fuel : Nat} {cs : List Value} {x : DataW H × List MemPlace}
    (hs : P.underlying t = some (.struct #[f0, f1, f2, f3])) (hC : P.cellsOf t = 6) (o0 : f0.offset = 0) (o1 : f1.offset = 1) (o2 : f2.offset = 2) (o3 : f3.offset = 3) (k0 : P.cellsOf f0.type = 1) (k1 : P.cellsOf f1.type = 1) (k2 : P.cellsOf f2.type = 1) (k3 : P.cellsOf f3.type = 3)
    (u0 : P.underlying f0.type = some (.int .i64)) (u1 : P.underlying f1.type = some (.int .i64)) (u2 : P.underlying f2.type = some .string) (e3 : f3.type = tc)
    (hs' : P.underlying tc = some (.struct #[h0, h1, h2])) (q0 : h0.offset = 0) (q1 : h1.offset = 1) (q2 : h2.offset = 2) (l0 : P.cellsOf h0.type = 1) (l1 : P.cellsOf h1.type = 1) (l2 : P.cellsOf h2.type = 1)
    (v0 : P.underlying h0.type = some (.slice e)) (ue : P.underlying e = some .bool) (ce : P.cellsOf e = 1) (v1 : P.underlying h1.type = some (.int .i64)) (v2 : P.underlying h2.type = some (.int .i64))
    (h : DataW.trod enc P w 0 (fun _ => true) true fuel t cs = some x) : ∃ a : Ac, cs = a.cells ∧ a.C.At w ∧ a.C.m ≤ 9223372036854775807 ∧ a.s.size ≤ maxLen := by
  obtain ⟨xs, n, _, _, hl, hxl, hf⟩ := DataW.trod_struct hs h
  obtain ⟨c0, c1, c2, c3, c4, c5, rfl⟩ := six_of (hl.trans hC)
  obtain ⟨y0, y1, y2, y3, rfl⟩ : ∃ y0 y1 y2 y3, xs = [y0, y1, y2, y3] := by
    match xs, hxl with
    | [a, b, c, d], _ => exact ⟨a, b, c, d, rfl⟩
  have g0 := hf 0 f0 rfl
  have g1 := hf 1 f1 rfl
  have g2 := hf 2 f2 rfl
  have g3 := hf 3 f3 rfl
  rw [o0, k0] at g0
  rw [o1, k1] at g1
  rw [o2, k2] at g2
  rw [o3, k3, e3] at g3
  simp only [List.drop_zero, List.drop_succ_cons, List.take_succ_cons, List.take_zero] at g0 g1 g2 g3
  obtain ⟨r0, hr0, _⟩ := DataW.trod_int u0 (x := y0) (by simpa using g0)
  obtain ⟨r1, hr1, _⟩ := DataW.trod_int u1 (x := y1) (by simpa using g1)
  obtain ⟨r2, hr2, _, hsz⟩ := DataW.trod_string u2 (x := y2) (by simpa using g2)
  obtain ⟨C, hc, hA, hm⟩ := crash_view hs' (e3 ▸ k3) q0 q1 q2 l0 l1 l2 v0 ue ce v1 v2 (x := y3) (by simpa using g3)
  simp only [List.cons.injEq, and_true] at hr0 hr1 hr2 hc
  obtain ⟨rfl, rfl, rfl⟩ := hc
  subst hr0 hr1 hr2
  exact ⟨⟨r0, r1, r2, C⟩, rfl, hA, hm, hsz⟩
/-- a call by value -/
theorem act_of {H : Type} {enc : TypeId × Value → H} {w : World} {base : Nat} {v : Value} {d : DataW H} {ps : List MemPlace} (hok : Value.okWide Try.prog w .any base 45 v) (h : DataW.Trod enc Try.prog w 0 (fun _ => true) true 45 v d ps) :
    ∃ a : Ac, v = .agg a.cells.toArray ∧ a.C.At w ∧ a.C.m ≤ 9223372036854775807 ∧ a.s.size ≤ maxLen := by
  obtain ⟨cs, rfl, hsz⟩ := okWide_struct Try.underlying45 hok
  obtain ⟨fuel, hf⟩ := h
  obtain ⟨a, h1, h2, h3, h4⟩ := act_view Try.underlying45 (by kernel_rfl) rfl rfl rfl rfl (by kernel_rfl) (by kernel_rfl) (by kernel_rfl) (by kernel_rfl) Try.underlying3 Try.underlying3 Try.underlying9 rfl
    Try.underlying25 rfl rfl rfl (by kernel_rfl) (by kernel_rfl) (by kernel_rfl) Try.underlying23 Try.underlying4 (by kernel_rfl) Try.underlying3 Try.underlying3 (cs := cs.toList) (by simpa [Value.cells] using hf)
  exact ⟨a, by rw [← h1], h2, h3, h4⟩
/-- a crash by value -/
theorem crash_of {H : Type} {enc : TypeId × Value → H} {w : World} {base : Nat} {v : Value} {d : DataW H} {ps : List MemPlace} (hok : Value.okWide Try.prog w .any base 25 v) (h : DataW.Trod enc Try.prog w 0 (fun _ => true) true 25 v d ps) :
    ∃ C : Cr, v = C.val ∧ C.At w ∧ C.m ≤ 9223372036854775807 := by
  obtain ⟨cs, rfl, hsz⟩ := okWide_struct Try.underlying25 hok
  obtain ⟨fuel, hf⟩ := h
  obtain ⟨C, h1, h2, h3⟩ := crash_view Try.underlying25 (by kernel_rfl) rfl rfl rfl (by kernel_rfl) (by kernel_rfl) (by kernel_rfl) Try.underlying23 Try.underlying4 (by kernel_rfl) Try.underlying3 Try.underlying3 (cs := cs.toList) (by simpa [Value.cells] using hf)
  refine ⟨C, ?_, h2, h3⟩
  unfold Cr.val
  congr 1
  exact Array.toList_inj.1 h1
end Go.Proofs.Ytclompapmbhijaa.Dk
