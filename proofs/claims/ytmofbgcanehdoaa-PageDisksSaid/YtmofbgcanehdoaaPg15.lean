/- what comes in to the statements of layer 11: a page. -/
import Derived.Test.YtmofbgcanehdoaaPg14
import Derived.Laws.StructEq
import Derived.Deep.Grids
import Derived.Deep.Slices
namespace Go.Proofs.Ytmofbgcanehdoaa.Pg
open Go.RowKit Pk Dk Go.ChangeShapes Go.WideShapes
attribute [local go_sem ↓] Go.wp_at_zero Go.wp_at_succ
theorem page_view {H : Type} {enc : TypeId × Value → H} {P : Program} {w : World} {t : TypeId} {f0 f1 f2 f3 : Field} {fuel : Nat} {cs : List Value} {x : DataW H × List MemPlace}
    (hs : P.underlying t = some (.struct #[f0, f1, f2, f3])) (hC : P.cellsOf t = 4) (o0 : f0.offset = 0) (o1 : f1.offset = 1) (o2 : f2.offset = 2) (o3 : f3.offset = 3) (k0 : P.cellsOf f0.type = 1) (k1 : P.cellsOf f1.type = 1) (k2 : P.cellsOf f2.type = 1) (k3 : P.cellsOf f3.type = 1)
    (u0 : P.underlying f0.type = some (.int .i64)) (u1 : P.underlying f1.type = some (.int .i64)) (u2 : P.underlying f2.type = some (.int .i64)) (u3 : P.underlying f3.type = some .string)
    (h : DataW.trod enc P w 0 (fun _ => true) true fuel t cs = some x) : ∃ (id ep kd : Int) (s : ByteArray), cs = [.int .i64 id, .int .i64 ep, .int .i64 kd, .string s] ∧ id ≤ 9223372036854775807 ∧ s.size ≤ maxLen := by
  obtain ⟨xs, n, _, _, hl, hxl, hf⟩ := DataW.trod_struct hs h
  obtain ⟨c0, c1, c2, c3, rfl⟩ : ∃ a b c d, cs = [a, b, c, d] := by
    match cs, hl.trans hC with
    | [a, b, c, d], _ => exact ⟨a, b, c, d, rfl⟩
  obtain ⟨y0, y1, y2, y3, rfl⟩ : ∃ y0 y1 y2 y3, xs = [y0, y1, y2, y3] := by
    match xs, hxl with
    | [a, b, c, d], _ => exact ⟨a, b, c, d, rfl⟩
  have g0 := hf 0 f0 rfl
  have g1 := hf 1 f1 rfl
  have g2 := hf 2 f2 rfl
  have g3 := hf 3 f3 rfl
  rw [o0, k0] at g0
  rw [o1, k1] at g1
  rw [o2, k2] at g2
  rw [o3, k3] at g3
  simp only [List.drop_zero, List.drop_succ_cons, List.take_succ_cons, List.take_zero] at g0 g1 g2 g3
  obtain ⟨r0, hr0, _, wf⟩ := DataW.trod_int u0 (x := y0) (by simpa using g0)
  obtain ⟨r1, hr1, _⟩ := DataW.trod_int u1 (x := y1) (by simpa using g1)
  obtain ⟨r2, hr2, _⟩ := DataW.trod_int u2 (x := y2) (by simpa using g2)
  obtain ⟨r3, hr3, _, hsz⟩ := DataW.trod_string u3 (x := y3) (by simpa using g3)
  simp only [List.cons.injEq, and_true] at hr0 hr1 hr2 hr3
  subst hr0 hr1 hr2 hr3
  have := Go.bounds_i64 wf
  exact ⟨r0, r1, r2, r3, rfl, by omega, hsz⟩
/-- a page by value -/
theorem page_of {H : Type} {enc : TypeId × Value → H} {w : World} {base : Nat} {v : Value} {d : DataW H} {ps : List MemPlace} (hok : Value.okWide Try.prog w .any base 23 v) (h : DataW.Trod enc Try.prog w 0 (fun _ => true) true 23 v d ps) :
    ∃ (id ep kd : Int) (s : ByteArray), v = pageV id ep kd s ∧ id ≤ 9223372036854775807 ∧ s.size ≤ maxLen := by
  obtain ⟨cs, rfl, hsz⟩ := okWide_struct Try.underlying23 hok
  obtain ⟨fuel, hf⟩ := h
  obtain ⟨id, ep, kd, s, h1, h2, h3⟩ := page_view Try.underlying23 (by kernel_rfl) rfl rfl rfl rfl (by kernel_rfl) (by kernel_rfl) (by kernel_rfl) (by kernel_rfl) Try.underlying3 Try.underlying3 Try.underlying3 Try.underlying9 (cs := cs.toList) (by simpa [Value.cells] using hf)
  exact ⟨id, ep, kd, s, by unfold pageV; congr 1; exact Array.toList_inj.1 h1, h2, h3⟩
set_option maxHeartbeats 1000000 in
theorem pwrite_nil {w : World} (id ep kd : Int) (s : ByteArray) :
    Calls Try.prog 16 #[.pointer none, pageV id ep kd s] w fun e w' => e = .returned (.int .i64 1) ∧ Below w.heap.size w w' := by
  have O0 := Lib.hid (belowAlloc (Below.refl w.heap.size w) (.cells #[.int .i64 id, .int .i64 ep, .int .i64 kd, .string s] 23))
  unfold pageV
  go_enter Try.func16, Try.ntmps16
  go_wp2_with fail
  go_ret
  exact ⟨by first | rfl | simp, O0.out⟩
set_option maxRecDepth 100000 in
set_option maxHeartbeats 4000000 in
theorem none_any {w : World} (id ep kd : Int) (s : ByteArray) (i : Int) :
    Calls Try.prog 7 #[pageV id ep kd s, .int .i64 i] w fun e w' => e = .returned (.bool true) ∧ Below w.heap.size w w' := by
  have B0 := Lib.hid (Blk.new w 23 #[.int .i64 id, .int .i64 ep, .int .i64 kd, .string s])
  have O0 := Lib.hid (belowAlloc (Below.refl w.heap.size w) (.cells #[.int .i64 id, .int .i64 ep, .int .i64 kd, .string s] 23))
  have KR := Lib.hid (fun w => pread_nil (w := w) i)
  have KA := Lib.hid awake11_any
  have KW := Lib.hid (fun w => pwrite_nil (w := w) id ep kd s)
  have KM := Lib.hid many_nil
  unfold PG.val PG.zero pageV at *
  go_enter Try.func7, Try.ntmps7
  go_wp2_with fail
  refine (KR.out _).mono ?_
  rintro e w1 ⟨rfl, hb1⟩
  dsimp only
  have O1 := Lib.hid (belowAlloc (bstep O0.out hb1) (.cells #[.int .i64 0, .int .i64 0, .int .i64 0, .string ⟨#[]⟩] 23))
  have B1 := Lib.hid ((B0.out.below hb1 B0.out.lt).alloc (.cells #[.int .i64 0, .int .i64 0, .int .i64 0, .string ⟨#[]⟩] 23))
  have P1 := Lib.hid (Blk.new w1 23 #[.int .i64 0, .int .i64 0, .int .i64 0, .string ⟨#[]⟩])
  clear hb1 O0 B0
  go_wp2_with fail
  refine (KA.out _).mono ?_
  rintro e w2 ⟨rfl, hb2⟩
  have O2 := Lib.hid (bstep O1.out hb2)
  have B2 := Lib.hid (B1.out.below hb2 B1.out.lt)
  have P2 := Lib.hid (P1.out.below hb2 P1.out.lt)
  clear hb2 O1 B1 P1
  have c0 := B2.out.cell_some (i := 0) rfl
  have c1 := B2.out.cell_some (i := 1) rfl
  have c2 := B2.out.cell_some (i := 2) rfl
  have c3 := B2.out.cell_some (i := 3) rfl
  have p0 := P2.out.cell_some (i := 0) rfl
  have p1 := P2.out.cell_some (i := 1) rfl
  have p2 := P2.out.cell_some (i := 2) rfl
  have p3 := P2.out.cell_some (i := 3) rfl
  go_wp2_with fail
  refine (KW.out _).mono ?_
  rintro e w3 ⟨rfl, hb3⟩
  have O3 := Lib.hid (bstep O2.out hb3)
  clear hb3
  go_wp2_with fail
  refine (KM.out _).mono ?_
  rintro e w4 ⟨rfl, rfl⟩
  go_wp2_with fail
  go_ret
  exact ⟨by first | rfl | simp, O3.out⟩
end Go.Proofs.Ytmofbgcanehdoaa.Pg
