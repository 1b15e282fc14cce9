/- what comes in to ShadowCrash. -/
import Derived.Test.YtbelcgjbhpjnpaaGreatV5
import Derived.Test.YtbelcgjbhpjnpaaGreatDa
import Derived.Deep.Grids
import Derived.Deep.Slices
import Derived.Lib.SmallJoins
set_option linter.all false
set_option linter.unusedVariables false
set_option linter.unusedSimpArgs false
namespace Go.Proofs.YtbelcgjbhpjnpaaGreat.Sh
open Go.RowKit Pk Dk Pg Go.Deep Go.ChangeShapes Go.WideShapes
theorem three_of {cs : List Value} (h : cs.length = 3) : ∃ a b c, cs = [a, b, c] := by
 match cs, h with
 | [a, b, c], _ => exact ⟨a, b, c, rfl⟩
theorem six_of {cs : List Value} (h : cs.length = 6) : ∃ a b c d e f, cs = [a, b, c, d, e, f] := by
 match cs, h with
 | [a, b, c, d, e, f], _ => exact ⟨a, b, c, d, e, f, rfl⟩
theorem crash_view {H : Type} {enc : TypeId × Value → H} {P : Program} {w : World} {t e : TypeId} {f0 f1 f2 : Field} {fuel : Nat} {cs : List Value} {x : DataW H × List MemPlace}
  (hs : P.underlying t = some (.struct #[f0, f1, f2])) (hC : P.cellsOf t = 3) (o0 : f0.offset = 0) (o1 : f1.offset = 1) (o2 : f2.offset = 2) (k0 : P.cellsOf f0.type = 1) (k1 : P.cellsOf f1.type = 1) (k2 : P.cellsOf f2.type = 1)
  (u0 : P.underlying f0.type = some (.slice e)) (ue : P.underlying e = some .bool) (ce : P.cellsOf e = 1) (u1 : P.underlying f1.type = some (.int .i64)) (u2 : P.underlying f2.type = some (.int .i64))
  (h : DataW.trod enc P w 0 (fun _ => true) true fuel t cs = some x) : ∃ C : Cr, cs = [.slice C.A C.m C.c, .int .i64 C.torn, .int .i64 C.bytes] ∧ C.At w ∧ C.m ≤ 9223372036854775807 := by
 obtain ⟨xs, n, _, _, hl, hxl, hf⟩ := DataW.trod_struct hs h
 obtain ⟨c0, c1, c2, rfl⟩ := three_of (hl.trans hC)
 obtain ⟨y0, y1, y2, rfl⟩ : ∃ y0 y1 y2, xs = [y0, y1, y2] := by
  match xs, hxl with
  | [a, b, c], _ => exact ⟨a, b, c, rfl⟩
 have g0 := hf 0 f0 rfl
 have g1 := hf 1 f1 rfl
 have g2 := hf 2 f2 rfl
 rw [o0, k0] at g0
 rw [o1, k1] at g1
 rw [o2, k2] at g2
 simp only [List.drop_zero, List.drop_succ_cons, List.take_succ_cons, List.take_zero] at g0 g1 g2
 obtain ⟨q1, hq1, _⟩ := DataW.trod_int u1 (x := y1) (by simpa using g1)
 obtain ⟨q2, hq2, _⟩ := DataW.trod_int u2 (x := y2) (by simpa using g2)
 simp only [List.cons.injEq, and_true] at hq1 hq2
 subst hq1 hq2
 rcases open_bools u0 ue ce (x := y0) (by simpa using g0) with ⟨h0, _⟩ | ⟨a, len, cap, B, h0, _, hlen, hcap, _, hB⟩
 ·simp only [List.cons.injEq, and_true] at h0
  subst h0
  exact ⟨⟨none, 0, 0, fun _ => false, q1, q2⟩, rfl, fun i hi => absurd hi (Nat.not_lt_zero i), Nat.zero_le _⟩
 ·simp only [List.cons.injEq, and_true] at h0
  subst h0
  exact ⟨⟨some a, len, cap, B, q1, q2⟩, rfl, fun i hi => ⟨a, rfl, hB i (Nat.lt_of_lt_of_le hi hlen)⟩, by show len ≤ _; unfold maxLen at hcap; omega⟩

set_option maxRecDepth 100000 in
theorem sacts_view {H : Type} {enc : TypeId × Value → H} {w : World} {fuel : Nat} {cs : List Value} {x : DataW H × List MemPlace} (h : DataW.trod enc Tryz.prog w 0 (fun _ => true) true fuel 22 cs = some x) :
  ∃ (A : Option Addr) (n c : Nat) (F : Nat → Sa), cs = [.slice A n c] ∧ n ≤ 9223372036854775807 ∧ SActs w A n F := by
 have hce : Tryz.prog.cellsOf 31 = 3 := by kernel_rfl
 rcases open_slice Tryz.underlying22 h with ⟨hcs, _⟩ | ⟨a, len', cap', m, n, D, Pl, hcs, _, hl, hm, hmm, _, hall⟩
 ·exact ⟨none, 0, 0, fun _ => default, hcs, Nat.zero_le _, fun k hk => absurd hk (by omega)⟩
 ·simp at hmm
  have each : ∀ k, k < len' → ∃ x : Sa, SaAt w (a.add (k * 3)) x := by
   intro k hk
   obtain ⟨cs', hcs', htr⟩ := hall k (by omega)
   rw [hce] at hcs'
   obtain ⟨_, _, hget⟩ := World.cells?_some hcs'
   obtain ⟨kd, l, s, rfl, _, _⟩ := sact_view Tryz.underlying31 (by kernel_rfl) rfl rfl rfl (by kernel_rfl) (by kernel_rfl) (by kernel_rfl) Tryz.underlying3 Tryz.underlying3 Tryz.underlying9 htr
   have g0 := hget 0 (by omega)
   have g1 := hget 1 (by omega)
   have g2 := hget 2 (by omega)
   rw [add_zero''] at g0
   rw [add_at' _ _ _ (by omega)] at g1 g2
   exact ⟨⟨kd, l, s⟩, g0, g1, g2⟩
  obtain ⟨F, hF⟩ := choose_lt' (p := fun k x => SaAt w (a.add (k * 3)) x) each
  exact ⟨some a, len', cap', F, hcs, by unfold maxLen at hm; omega, fun k hk => ⟨a, rfl, hF k hk⟩⟩
theorem four_view {H : Type} {enc : TypeId × Value → H} {P : Program} {w : World} {t : TypeId} {f0 f1 f2 f3 : Field} {fuel : Nat} {cs : List Value} {x : DataW H × List MemPlace}
  (hs : P.underlying t = some (.struct #[f0, f1, f2, f3])) (hC : P.cellsOf t = 6) (o0 : f0.offset = 0) (o1 : f1.offset = 1) (o2 : f2.offset = 2) (o3 : f3.offset = 5) (k0 : P.cellsOf f0.type = 1) (k1 : P.cellsOf f1.type = 1) (k2 : P.cellsOf f2.type = 3) (k3 : P.cellsOf f3.type = 1)
  (h : DataW.trod enc P w 0 (fun _ => true) true fuel t cs = some x) : ∃ c0 c1 c2 c3 c4 c5 n y0 y1 y2 y3, cs = [c0, c1, c2, c3, c4, c5] ∧ DataW.trod enc P w 0 (fun _ => true) true n f0.type [c0] = some y0 ∧ DataW.trod enc P w 0 (fun _ => true) true n f1.type [c1] = some y1 ∧ DataW.trod enc P w 0 (fun _ => true) true n f2.type [c2, c3, c4] = some y2 ∧ DataW.trod enc P w 0 (fun _ => true) true n f3.type [c5] = some y3 := by
 obtain ⟨xs, n, _, _, hl, hxl, hf⟩ := DataW.trod_struct hs h
 obtain ⟨c0, c1, c2, c3, c4, c5, rfl⟩ := six_of (hl.trans hC)
 obtain ⟨y0, y1, y2, y3, rfl⟩ : ∃ y0 y1 y2 y3, xs = [y0, y1, y2, y3] := by
  match xs, hxl with
  | [a, b, c, d], _ => exact ⟨a, b, c, d, rfl⟩
 have g0 := hf 0 f0 rfl
 have g1 := hf 1 f1 rfl
 have g2 := hf 2 f2 rfl
 have g3 := hf 3 f3 rfl
 rw [o0, k0] at g0
 rw [o1, k1] at g1
 rw [o2, k2] at g2
 rw [o3, k3] at g3
 simp only [List.drop_zero, List.drop_succ_cons, List.take_succ_cons, List.take_zero] at g0 g1 g2 g3
 exact ⟨c0, c1, c2, c3, c4, c5, n, y0, y1, y2, y3, rfl, by simpa using g0, by simpa using g1, by simpa using g2, by simpa using g3⟩
set_option maxRecDepth 100000 in
theorem four_of {H : Type} {enc : TypeId × Value → H} {w : World} {base : Nat} {v : Value} {d : DataW H} {ps : List MemPlace} (hok : Value.okWide Tryz.prog w .any base 40 v) (h : DataW.Trod enc Tryz.prog w 0 (fun _ => true) true 40 v d ps) :
  ∃ (A : Option Addr) (m cc : Nat) (F : Nat → Sa) (arm : Nat) (cr : Cr) (A2 : Option Addr) (m2 cc2 : Nat) (F2 : Nat → Sa), v = .agg #[.slice A m cc, .int .u8 (arm : Nat), .slice cr.A cr.m cr.c, .int .i64 cr.torn, .int .i64 cr.bytes, .slice A2 m2 cc2] ∧ m ≤ 9223372036854775807 ∧ SActs w A m F ∧ arm < 256 ∧ cr.At w ∧ cr.m ≤ 9223372036854775807 ∧ SActs w A2 m2 F2 := by
 obtain ⟨cs, rfl, hsz⟩ := okWide_struct Tryz.underlying40 hok
 obtain ⟨fuel, hf⟩ := h
 obtain ⟨c0, c1, c2, c3, c4, c5, n, y0, y1, y2, y3, hcs, g0, g1, g2, g3⟩ := four_view Tryz.underlying40 (by kernel_rfl) rfl rfl rfl rfl (by kernel_rfl) (by kernel_rfl) (by kernel_rfl) (by kernel_rfl) (cs := cs.toList) (by simpa [Value.cells] using hf)
 obtain ⟨A, m, cc, F, e0, hm, hA⟩ := sacts_view g0
 obtain ⟨q1, e1, hq⟩ := DataW.trod_int Tryz.underlying5 (x := y1) g1
 obtain ⟨cr, e2, hC, hcm⟩ := crash_view Tryz.underlying38 (by kernel_rfl) rfl rfl rfl (by kernel_rfl) (by kernel_rfl) (by kernel_rfl) Tryz.underlying36 Tryz.underlying4 (by kernel_rfl) Tryz.underlying3 Tryz.underlying3 g2
 obtain ⟨A2, m2, cc2, F2, e3, hm2, hA2⟩ := sacts_view g3
 simp only [List.cons.injEq, and_true] at e0 e1 e2 e3
 obtain ⟨rfl, rfl, rfl⟩ := e2
 subst e0 e1 e3
 have hb := Go.bounds_u8 hq.2
 obtain ⟨N, rfl⟩ := Int.eq_ofNat_of_zero_le hb.1
 exact ⟨A, m, cc, F, N, cr, A2, m2, cc2, F2, by congr 1; exact Array.toList_inj.1 hcs, hm, hA, by omega, hC, hcm, hA2⟩
end Go.Proofs.YtbelcgjbhpjnpaaGreat.Sh
