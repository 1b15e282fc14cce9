/- what comes in to the statements of layer 11: calls. -/
import Derived.Test.YtmofbgcanehdoaaPg21
import Derived.Test.YtmofbgcanehdoaaXa
import Derived.Test.YtmofbgcanehdoaaXo
namespace Go.Proofs.Ytmofbgcanehdoaa.Pg
open Go.RowKit Pk Dk Go.ChangeShapes Go.WideShapes Go.Deep
/-- a call -/
structure Pc where
  kind : Int
  i : Int
  pid : Int
  pep : Int
  pkd : Int
  ps : ByteArray
  s : ByteArray
  C : Cr
def Pc.cells (a : Pc) : List Value := [.int .i64 a.kind, .int .i64 a.i, .int .i64 a.pid, .int .i64 a.pep, .int .i64 a.pkd, .string a.ps, .string a.s, .slice a.C.A a.C.m a.C.c, .int .i64 a.C.torn, .int .i64 a.C.bytes]
instance : Inhabited Pc := ⟨⟨0, 0, 0, 0, 0, .empty, .empty, ⟨none, 0, 0, fun _ => false, 0, 0⟩⟩⟩
theorem pc_view {H : Type} {enc : TypeId × Value → H} {P : Program} {w : World} {t tc tp e : TypeId} {f0 f1 f2 f3 f4 h0 h1 h2 p0 p1 p2 p3 : Field} {fuel : Nat} {cs : List Value} {x : DataW H × List MemPlace}
    (hs : P.underlying t = some (.struct #[f0, f1, f2, f3, f4])) (hC : P.cellsOf t = 10) (o0 : f0.offset = 0) (o1 : f1.offset = 1) (o2 : f2.offset = 2) (o3 : f3.offset = 6) (o4 : f4.offset = 7)
    (k0 : P.cellsOf f0.type = 1) (k1 : P.cellsOf f1.type = 1) (k2 : P.cellsOf f2.type = 4) (k3 : P.cellsOf f3.type = 1) (k4 : P.cellsOf f4.type = 3)
    (u0 : P.underlying f0.type = some (.int .i64)) (u1 : P.underlying f1.type = some (.int .i64)) (e2 : f2.type = tp) (u3 : P.underlying f3.type = some .string) (e4 : f4.type = tc)
    (hs' : P.underlying tc = some (.struct #[h0, h1, h2])) (q0 : h0.offset = 0) (q1 : h1.offset = 1) (q2 : h2.offset = 2) (l0 : P.cellsOf h0.type = 1) (l1 : P.cellsOf h1.type = 1) (l2 : P.cellsOf h2.type = 1)
    (v0 : P.underlying h0.type = some (.slice e)) (ue : P.underlying e = some .bool) (ce : P.cellsOf e = 1) (v1 : P.underlying h1.type = some (.int .i64)) (v2 : P.underlying h2.type = some (.int .i64))
    (hp : P.underlying tp = some (.struct #[p0, p1, p2, p3])) (r0 : p0.offset = 0) (r1 : p1.offset = 1) (r2 : p2.offset = 2) (r3 : p3.offset = 3) (m0 : P.cellsOf p0.type = 1) (m1 : P.cellsOf p1.type = 1) (m2 : P.cellsOf p2.type = 1) (m3 : P.cellsOf p3.type = 1)
    (w0 : P.underlying p0.type = some (.int .i64)) (w1 : P.underlying p1.type = some (.int .i64)) (w2 : P.underlying p2.type = some (.int .i64)) (w3 : P.underlying p3.type = some .string)
    (h : DataW.trod enc P w 0 (fun _ => true) true fuel t cs = some x) : ∃ a : Pc, cs = a.cells ∧ a.C.At w ∧ a.C.m ≤ 9223372036854775807 ∧ a.s.size ≤ maxLen ∧ a.ps.size ≤ maxLen ∧ a.pid ≤ 9223372036854775807 ∧ a.i ≤ 9223372036854775807 := by
  obtain ⟨xs, n, _, _, hl, hxl, hf⟩ := DataW.trod_struct hs h
  obtain ⟨c0, c1, c2, c3, c4, c5, c6, c7, c8, c9, rfl⟩ : ∃ a b c d e f g h i j, cs = [a, b, c, d, e, f, g, h, i, j] := by
    match cs, hl.trans hC with
    | [a, b, c, d, e, f, g, h, i, j], _ => exact ⟨a, b, c, d, e, f, g, h, i, j, rfl⟩
  obtain ⟨y0, y1, y2, y3, y4, rfl⟩ : ∃ y0 y1 y2 y3 y4, xs = [y0, y1, y2, y3, y4] := by
    match xs, hxl with
    | [a, b, c, d, e], _ => exact ⟨a, b, c, d, e, rfl⟩
  have g0 := hf 0 f0 rfl
  have g1 := hf 1 f1 rfl
  have g2 := hf 2 f2 rfl
  have g3 := hf 3 f3 rfl
  have g4 := hf 4 f4 rfl
  rw [o0, k0] at g0
  rw [o1, k1] at g1
  rw [o2, k2, e2] at g2
  rw [o3, k3] at g3
  rw [o4, k4, e4] at g4
  simp only [List.drop_zero, List.drop_succ_cons, List.take_succ_cons, List.take_zero] at g0 g1 g2 g3 g4
  obtain ⟨a0, hr0, _⟩ := DataW.trod_int u0 (x := y0) (by simpa using g0)
  obtain ⟨a1, hr1, _, wf1⟩ := DataW.trod_int u1 (x := y1) (by simpa using g1)
  obtain ⟨pid, pep, pkd, ps, hpc, hpid, hps⟩ := page_view hp (e2 ▸ k2) r0 r1 r2 r3 m0 m1 m2 m3 w0 w1 w2 w3 (x := y2) (by simpa using g2)
  obtain ⟨a3, hr3, _, hsz⟩ := DataW.trod_string u3 (x := y3) (by simpa using g3)
  obtain ⟨C, hc, hA, hm⟩ := crash_view hs' (e4 ▸ k4) q0 q1 q2 l0 l1 l2 v0 ue ce v1 v2 (x := y4) (by simpa using g4)
  simp only [List.cons.injEq, and_true] at hr0 hr1 hr3 hc hpc
  obtain ⟨rfl, rfl, rfl⟩ := hc
  obtain ⟨rfl, rfl, rfl, rfl⟩ := hpc
  subst hr0 hr1 hr3
  exact ⟨⟨a0, a1, pid, pep, pkd, ps, a3, C⟩, rfl, hA, hm, hsz, hps, hpid, (Go.bounds_i64 wf1).2⟩
/-- calls that came in: their cells -/
structure PcAt (w : World) (ad : Addr) (a : Pc) : Prop where
  c0 : w.cell? ad = some (.int .i64 a.kind)
  c1 : w.cell? ⟨ad.block, ad.off + 1, none⟩ = some (.int .i64 a.i)
  c2 : w.cell? ⟨ad.block, ad.off + 2, none⟩ = some (.int .i64 a.pid)
  c3 : w.cell? ⟨ad.block, ad.off + 3, none⟩ = some (.int .i64 a.pep)
  c4 : w.cell? ⟨ad.block, ad.off + 4, none⟩ = some (.int .i64 a.pkd)
  c5 : w.cell? ⟨ad.block, ad.off + 5, none⟩ = some (.string a.ps)
  c6 : w.cell? ⟨ad.block, ad.off + 6, none⟩ = some (.string a.s)
  c7 : w.cell? ⟨ad.block, ad.off + 7, none⟩ = some (.slice a.C.A a.C.m a.C.c)
  c8 : w.cell? ⟨ad.block, ad.off + 8, none⟩ = some (.int .i64 a.C.torn)
  c9 : w.cell? ⟨ad.block, ad.off + 9, none⟩ = some (.int .i64 a.C.bytes)
  C : a.C.At w
  hm : a.C.m ≤ 9223372036854775807
  hs : a.s.size ≤ 9223372036854775807
  hps : a.ps.size ≤ 9223372036854775807
  hpid : a.pid ≤ 9223372036854775807
  hi : a.i ≤ 9223372036854775807
def Pcs (w : World) (A : Option Addr) (n : Nat) (F : Nat → Pc) : Prop := ∀ k, k < n → ∃ ad, A = some ad ∧ PcAt w (ad.add (k * 10)) (F k)
theorem PcAt.below {w w' : World} {ad : Addr} {a : Pc} (h : PcAt w ad a) (hb : Below w.heap.size w w') : PcAt w' ad a := by
  have hlt := cell_lt' h.c0
  have e : ∀ j : Nat, w'.cell? ⟨ad.block, ad.off + j, none⟩ = w.cell? ⟨ad.block, ad.off + j, none⟩ := fun j => hb.cell (p := ⟨ad.block, ad.off + j, none⟩) hlt
  exact ⟨(hb.cell hlt).trans h.c0, (e 1).trans h.c1, (e 2).trans h.c2, (e 3).trans h.c3, (e 4).trans h.c4, (e 5).trans h.c5, (e 6).trans h.c6, (e 7).trans h.c7, (e 8).trans h.c8, (e 9).trans h.c9, h.C.below hb, h.hm, h.hs, h.hps, h.hpid, h.hi⟩
theorem Pcs.below {w w' : World} {A : Option Addr} {n : Nat} {F : Nat → Pc} (h : Pcs w A n F) (hb : Below w.heap.size w w') : Pcs w' A n F := by
  intro k hk
  obtain ⟨ad, e, h1⟩ := h k hk
  exact ⟨ad, e, h1.below hb⟩
theorem add_at (a : Addr) (i j : Nat) (hj : 0 < j) : (a.add i).add j = ⟨(a.add i).block, (a.add i).off + j, none⟩ := by
  rw [Addr.add, if_neg (by omega)]
theorem add_zero' (a : Addr) : a.add 0 = a := by simp [Addr.add]
theorem pcs_of {H : Type} {enc : TypeId × Value → H} {w : World} {base : Nat} {v : Value} {d : DataW H} {ps : List MemPlace} (hok : Value.okWide Try.prog w .any base 42 v) (h : DataW.Trod enc Try.prog w 0 (fun _ => true) true 42 v d ps) :
    ∃ (A : Option Addr) (n c : Nat) (F : Nat → Pc), v = .slice A n c ∧ n ≤ 9223372036854775807 ∧ Pcs w A n F := by
  obtain ⟨a0, len, cap, rfl⟩ := Go.WideShapes.okWide_slice Try.underlying42 hok
  obtain ⟨fuel, hf⟩ := h
  have hce : Try.prog.cellsOf 50 = 10 := by kernel_rfl
  rcases open_slice Try.underlying42 hf with ⟨hcs, _⟩ | ⟨a, len', cap', m, n, D, Pl, hcs, _, hl, hm, hmm, _, hall⟩
  · simp [Value.cells] at hcs
    obtain ⟨rfl, rfl, rfl⟩ := hcs
    exact ⟨none, 0, 0, fun _ => default, rfl, Nat.zero_le _, fun k hk => absurd hk (by omega)⟩
  · simp [Value.cells] at hcs
    obtain ⟨rfl, rfl, rfl⟩ := hcs
    simp at hmm
    have each : ∀ k, k < len → ∃ x : Pc, PcAt w (a.add (k * 10)) x := by
      intro k hk
      obtain ⟨cs', hcs, htr⟩ := hall k (by omega)
      rw [hce] at hcs
      obtain ⟨_, _, hget⟩ := World.cells?_some hcs
      obtain ⟨x, rfl, h2, h3, h4, h5, h6, h7⟩ := pc_view Try.underlying50 (by kernel_rfl) rfl rfl rfl rfl rfl (by kernel_rfl) (by kernel_rfl) (by kernel_rfl) (by kernel_rfl) (by kernel_rfl) Try.underlying3 Try.underlying3 rfl Try.underlying9 rfl
        Try.underlying48 rfl rfl rfl (by kernel_rfl) (by kernel_rfl) (by kernel_rfl) Try.underlying46 Try.underlying4 (by kernel_rfl) Try.underlying3 Try.underlying3
        Try.underlying23 rfl rfl rfl rfl (by kernel_rfl) (by kernel_rfl) (by kernel_rfl) (by kernel_rfl) Try.underlying3 Try.underlying3 Try.underlying3 Try.underlying9 htr
      have g0 := hget 0 (by omega)
      have g1 := hget 1 (by omega)
      have g2 := hget 2 (by omega)
      have g3 := hget 3 (by omega)
      have g4 := hget 4 (by omega)
      have g5 := hget 5 (by omega)
      have g6 := hget 6 (by omega)
      have g7 := hget 7 (by omega)
      have g8 := hget 8 (by omega)
      have g9 := hget 9 (by omega)
      rw [add_zero'] at g0
      rw [add_at _ _ _ (by omega)] at g1 g2 g3 g4 g5 g6 g7 g8 g9
      unfold maxLen at h4 h5
      exact ⟨x, g0, g1, g2, g3, g4, g5, g6, g7, g8, g9, h2, h3, by omega, by omega, h6, h7⟩
    obtain ⟨F, hF⟩ := choose_lt (p := fun k x => PcAt w (a.add (k * 10)) x) each
    exact ⟨some a, len, cap, F, rfl, by unfold maxLen at hm; omega, fun k hk => ⟨a, rfl, hF k hk⟩⟩
end Go.Proofs.Ytmofbgcanehdoaa.Pg
