/- what comes in to the statements of layer 15; short. -/
import Derived.Test.YtbelcgjbhpjnpaaGreatDq
import Derived.Deep.Grids
import Derived.Deep.Slices
import Derived.Laws.StructEq
set_option linter.all false
set_option linter.unusedVariables false
set_option linter.unusedSimpArgs false
namespace Go.Proofs.YtbelcgjbhpjnpaaGreat.Sh
open Go.RowKit Go.ChangeShapes Go.WideShapes Go.Deep
attribute [local go_sem ↓] Go.wp_at_zero Go.wp_at_succ
theorem pact_view {H : Type} {enc : TypeId × Value → H} {P : Program} {w : World} {t : TypeId} {f0 f1 f2 : Field} {fuel : Nat} {cs : List Value} {x : DataW H × List MemPlace}
  (hs : P.underlying t = some (.struct #[f0, f1, f2])) (hC : P.cellsOf t = 3) (o0 : f0.offset = 0) (o1 : f1.offset = 1) (o2 : f2.offset = 2) (k0 : P.cellsOf f0.type = 1) (k1 : P.cellsOf f1.type = 1) (k2 : P.cellsOf f2.type = 1)
  (u0 : P.underlying f0.type = some (.int .i64)) (u1 : P.underlying f1.type = some (.int .i64)) (u2 : P.underlying f2.type = some .string)
  (h : DataW.trod enc P w 0 (fun _ => true) true fuel t cs = some x) : ∃ (kd l : Int) (s : ByteArray), cs = [.int .i64 kd, .int .i64 l, .string s] ∧ l ≤ 9223372036854775807 ∧ s.size ≤ maxLen := by
 obtain ⟨xs, n, _, _, hl, hxl, hf⟩ := DataW.trod_struct hs h
 obtain ⟨c0, c1, c2, rfl⟩ : ∃ a b c, cs = [a, b, c] := by
  match cs, hl.trans hC with
  | [a, b, c], _ => exact ⟨a, b, c, rfl⟩
 obtain ⟨y0, y1, y2, rfl⟩ : ∃ y0 y1 y2, xs = [y0, y1, y2] := by
  match xs, hxl with
  | [a, b, c], _ => exact ⟨a, b, c, rfl⟩
 have g0 := hf 0 f0 rfl
 have g1 := hf 1 f1 rfl
 have g2 := hf 2 f2 rfl
 rw [o0, k0] at g0
 rw [o1, k1] at g1
 rw [o2, k2] at g2
 simp only [List.drop_zero, List.drop_succ_cons, List.take_succ_cons, List.take_zero] at g0 g1 g2
 obtain ⟨r0, hr0, -⟩ := DataW.trod_int u0 (x := y0) (by simpa using g0)
 obtain ⟨r1, hr1, -, wf⟩ := DataW.trod_int u1 (x := y1) (by simpa using g1)
 obtain ⟨r2, hr2, -, hsz⟩ := DataW.trod_string u2 (x := y2) (by simpa using g2)
 simp only [List.cons.injEq, and_true] at hr0 hr1 hr2
 subst hr0 hr1 hr2
 have := Go.bounds_i64 wf
 exact ⟨r0, r1, r2, rfl, by omega, hsz⟩
set_option maxRecDepth 100000 in
theorem pact_of {H : Type} {enc : TypeId × Value → H} {w : World} {base : Nat} {v : Value} {d : DataW H} {ps : List MemPlace} (hok : Value.okWide Tryz.prog w .any base 80 v) (h : DataW.Trod enc Tryz.prog w 0 (fun _ => true) true 80 v d ps) :
  ∃ (kd l : Int) (s : ByteArray), v = .agg #[.int .i64 kd, .int .i64 l, .string s] ∧ l ≤ 9223372036854775807 ∧ s.size ≤ maxLen := by
 obtain ⟨cs, rfl, hsz⟩ := okWide_struct Tryz.underlying80 hok
 obtain ⟨fuel, hf⟩ := h
 obtain ⟨kd, l, s, h1, h2, h3⟩ := pact_view Tryz.underlying80 (by kernel_rfl) rfl rfl rfl (by kernel_rfl) (by kernel_rfl) (by kernel_rfl) Tryz.underlying3 Tryz.underlying3 Tryz.underlying9 (cs := cs.toList) (by simpa [Value.cells] using hf)
 exact ⟨kd, l, s, by congr 1; exact Array.toList_inj.1 h1, h2, h3⟩
set_option maxHeartbeats 1000000 in
theorem short15_any (kd l : Int) (s : ByteArray) (w : World) (b : Bool) (hb : b = decide (s.size < 500)) :
  Calls Tryz.prog 44 #[.agg #[.int .i64 kd, .int .i64 l, .string s]] w fun e w' => e = .returned (.bool b) ∧ Below w.heap.size w w' := by
 have B0 := Lib.hid (Blk.new w 80 #[.int .i64 kd, .int .i64 l, .string s])
 have O0 := Lib.hid (Rt.belowAlloc (Below.refl w.heap.size w) (.cells #[.int .i64 kd, .int .i64 l, .string s] 80))
 by_cases hs : s.size < 500
 ·have hsI : (s.size : Int) < 500 := by omega
  rw [show decide (s.size < 500) = true by simpa using hs] at hb
  subst hb
  go_enter Tryz.func44, Tryz.ntmps44
  have b2 := B0.out.cell_some (i := 2) rfl
  go_wp2_with fail
  go_ret
  exact ⟨by first | rfl | simp, O0.out⟩
 ·have hsI : ¬ (s.size : Int) < 500 := by omega
  rw [show decide (s.size < 500) = false by simpa using hs] at hb
  subst hb
  go_enter Tryz.func44, Tryz.ntmps44
  have b2 := B0.out.cell_some (i := 2) rfl
  go_wp2_with fail
  go_ret
  exact ⟨by first | rfl | simp, O0.out⟩
/-- a call -/
structure Sv where
 kd : Int
 l : Int
 s : ByteArray
instance : Inhabited Sv := ⟨⟨0, 0, .empty⟩⟩
structure SvAt (w : World) (ad : Addr) (a : Sv) : Prop where
 c0 : w.cell? ad = some (.int .i64 a.kd)
 c1 : w.cell? ⟨ad.block, ad.off + 1, none⟩ = some (.int .i64 a.l)
 c2 : w.cell? ⟨ad.block, ad.off + 2, none⟩ = some (.string a.s)
def SvActs (w : World) (A : Option Addr) (n : Nat) (F : Nat → Sv) : Prop := ∀ k, k < n → ∃ ad, A = some ad ∧ SvAt w (ad.add (k * 3)) (F k)
theorem SvAt.below {w w' : World} {ad : Addr} {a : Sv} (h : SvAt w ad a) (hb : Below w.heap.size w w') : SvAt w' ad a := by
 have hlt := cell_lt' h.c0
 have e : ∀ j : Nat, w'.cell? ⟨ad.block, ad.off + j, none⟩ = w.cell? ⟨ad.block, ad.off + j, none⟩ := fun j => hb.cell (p := ⟨ad.block, ad.off + j, none⟩) hlt
 exact ⟨(hb.cell hlt).trans h.c0, (e 1).trans h.c1, (e 2).trans h.c2⟩
theorem SvActs.below {w w' : World} {A : Option Addr} {n : Nat} {F : Nat → Sv} (h : SvActs w A n F) (hb : Below w.heap.size w w') : SvActs w' A n F := by
 intro k hk
 obtain ⟨ad, e, h1⟩ := h k hk
 exact ⟨ad, e, h1.below hb⟩
theorem add_atv (a : Addr) (i j : Nat) (hj : 0 < j) : (a.add i).add j = ⟨(a.add i).block, (a.add i).off + j, none⟩ := by
 rw [Addr.add, if_neg (by omega)]
theorem add_zerov (a : Addr) : a.add 0 = a := by simp [Addr.add]
theorem choose_ltv {α : Type} [Inhabited α] {n : Nat} {p : Nat → α → Prop} (h : ∀ k, k < n → ∃ x, p k x) : ∃ F : Nat → α, ∀ k, k < n → p k (F k) := by
 refine ⟨fun k => if hk : k < n then Classical.choose (h k hk) else default, fun k hk => ?_⟩
 show p k (if hk : k < n then Classical.choose (h k hk) else default)
 rw [dif_pos hk]
 exact Classical.choose_spec (h k hk)
set_option maxRecDepth 100000 in
theorem pacts_of {H : Type} {enc : TypeId × Value → H} {w : World} {base : Nat} {v : Value} {d : DataW H} {ps : List MemPlace} (hok : Value.okWide Tryz.prog w .any base 74 v) (h : DataW.Trod enc Tryz.prog w 0 (fun _ => true) true 74 v d ps) :
  ∃ (A : Option Addr) (n c : Nat) (F : Nat → Sv), v = .slice A n c ∧ n ≤ 9223372036854775807 ∧ SvActs w A n F := by
 obtain ⟨a0, len, cap, rfl⟩ := Go.WideShapes.okWide_slice Tryz.underlying74 hok
 obtain ⟨fuel, hf⟩ := h
 have hce : Tryz.prog.cellsOf 80 = 3 := by kernel_rfl
 rcases open_slice Tryz.underlying74 hf with ⟨hcs, _⟩ | ⟨a, len', cap', m, n, D, Pl, hcs, _, hl, hm, hmm, _, hall⟩
 ·simp [Value.cells] at hcs
  obtain ⟨rfl, rfl, rfl⟩ := hcs
  exact ⟨none, 0, 0, fun _ => default, rfl, Nat.zero_le _, fun k hk => absurd hk (by omega)⟩
 ·simp [Value.cells] at hcs
  obtain ⟨rfl, rfl, rfl⟩ := hcs
  simp at hmm
  have each : ∀ k, k < len → ∃ x : Sv, SvAt w (a.add (k * 3)) x := by
   intro k hk
   obtain ⟨cs', hcs, htr⟩ := hall k (by omega)
   rw [hce] at hcs
   obtain ⟨_, _, hget⟩ := World.cells?_some hcs
   obtain ⟨kd, l, s, rfl, _, _⟩ := pact_view Tryz.underlying80 (by kernel_rfl) rfl rfl rfl (by kernel_rfl) (by kernel_rfl) (by kernel_rfl) Tryz.underlying3 Tryz.underlying3 Tryz.underlying9 htr
   have g0 := hget 0 (by omega)
   have g1 := hget 1 (by omega)
   have g2 := hget 2 (by omega)
   rw [add_zerov] at g0
   rw [add_atv _ _ _ (by omega)] at g1 g2
   exact ⟨⟨kd, l, s⟩, g0, g1, g2⟩
  obtain ⟨F, hF⟩ := choose_ltv (p := fun k x => SvAt w (a.add (k * 3)) x) each
  exact ⟨some a, len, cap, F, rfl, by unfold maxLen at hm; omega, fun k hk => ⟨a, rfl, hF k hk⟩⟩
end Go.Proofs.YtbelcgjbhpjnpaaGreat.Sh
