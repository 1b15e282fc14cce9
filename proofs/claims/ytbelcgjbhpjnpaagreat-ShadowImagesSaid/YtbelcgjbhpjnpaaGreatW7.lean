/- a store of ours, step by step; an act that comes in; awake of layer 14. -/
import Derived.Test.YtbelcgjbhpjnpaaGreatW5
import Derived.Test.YtbelcgjbhpjnpaaGreatWb
import Derived.Laws.StructEq
import Derived.Deep.Grids
import Derived.Deep.Slices
set_option linter.all false
set_option linter.unusedVariables false
set_option linter.unusedSimpArgs false
namespace Go.Proofs.YtbelcgjbhpjnpaaGreat.Sh
open Go.RowKit Pk Dk Pg Go.ChangeShapes Go.WideShapes
attribute [local go_sem ↓] Go.wp_at_zero Go.wp_at_succ
/-- a store all of whose blocks are younger than the world w0 -/
def ShS (w0 w : World) (b n : Nat) (c : C) : Prop := ∃ x : X, x.b = b ∧ At w x n c ∧ Below w0.heap.size w0 w ∧ ∀ g ∈ x.fp, w0.heap.size ≤ g
theorem ShS.below {w0 w w' : World} {b n : Nat} {c : C} (h : ShS w0 w b n c) (hb : Below w.heap.size w w') : ShS w0 w' b n c := by
 obtain ⟨x, e, A, B, F⟩ := h
 exact ⟨x, e, A.below hb, bstep B hb, F⟩
theorem ShS.out {w0 w : World} {b n : Nat} {c : C} (h : ShS w0 w b n c) : Below w0.heap.size w0 w := by
 obtain ⟨x, e, A, B, F⟩ := h
 exact B
theorem ShS.post {w0 w w' : World} {x : X} {n : Nat} {c' : C} (B : Below w0.heap.size w0 w) (F : ∀ g ∈ x.fp, w0.heap.size ≤ g) (h : Post w w' x n c') : ShS w0 w' x.b n c' := by
 obtain ⟨x', e1, e2, A', o, f⟩ := h
 exact ⟨x', e1, A', B.trans (o.below_of B.size F), fun g hg => (f g hg).elim (F g) (fun h => Nat.le_trans B.size h)⟩
theorem qnew {w0 w : World} {b n : Nat} {c : C} (h : ShS w0 w b n c) (s : ByteArray) (hs : s.size ≤ 9223372036854775807) (hep : 0 ≤ c.ep ∧ c.ep ≤ 1099511627776) (hc : c.d.calls ≤ 999999990) (hr : c.d.armed ≤ 9223372036854775807) :
  Calls Tryz.prog 28 #[sp b, .string s] w fun e w' => e = .returned (.tuple #[.int .i64 (c.newF n s.data.toList).2.1, .int .i64 (c.newF n s.data.toList).2.2]) ∧ ShS w0 w' b n (c.newF n s.data.toList).1 := by
 obtain ⟨x, rfl, A, B, F⟩ := h
 refine (new_any A s hs hep hc hr).mono ?_
 rintro e w' ⟨rfl, P⟩
 exact ⟨rfl, .post B F P⟩
theorem qread {w0 w : World} {b n : Nat} {c : C} (h : ShS w0 w b n c) (l : Int) :
  Calls Tryz.prog 29 #[sp b, .int .i64 l] w fun e w' => e = .returned (.tuple #[.string ⟨(c.readF n l).1.toArray⟩, .int .i64 (c.readF n l).2]) ∧ ShS w0 w' b n c := by
 have h' := h
 obtain ⟨x, rfl, A, B, F⟩ := h
 refine (read_any A l).mono ?_
 rintro e w' ⟨rfl, hb⟩
 exact ⟨rfl, h'.below hb⟩
theorem qepoch {w0 w : World} {b n : Nat} {c : C} (h : ShS w0 w b n c) :
  Calls Tryz.prog 27 #[sp b] w fun e w' => e = .returned (.int .i64 c.ep) ∧ w = w' := by
 obtain ⟨x, rfl, A, B, F⟩ := h
 exact epoch_any A
theorem qwrite {w0 w : World} {b n : Nat} {c : C} (h : ShS w0 w b n c) (l : Int) (s : ByteArray) (hs : s.size ≤ 9223372036854775807) (hep : 0 ≤ c.ep ∧ c.ep ≤ 1099511627776) (hc : c.d.calls ≤ 999999990) (hr : c.d.armed ≤ 9223372036854775807) (ht : ∀ k, c.table.getD k 0 ≤ 1024) :
  Calls Tryz.prog 32 #[sp b, .int .i64 l, .string s] w fun e w' => e = .returned (.int .i64 (c.writeF n l s.data.toList).2) ∧ ShS w0 w' b n (c.writeF n l s.data.toList).1 := by
 obtain ⟨x, rfl, A, B, F⟩ := h
 refine (swrite_any A l s hs hep hc hr ht).mono ?_
 rintro e w' ⟨rfl, A', o⟩
 exact ⟨rfl, x, rfl, A', B.trans (o.below_of B.size F), F⟩
theorem qabort {w0 w : World} {b n : Nat} {c : C} (h : ShS w0 w b n c) (hol : c.old.length ≤ 512) :
  Calls Tryz.prog 35 #[sp b] w fun e w' => e = .returned (.bool true) ∧ ShS w0 w' b n c.abortF := by
 obtain ⟨x, rfl, A, B, F⟩ := h
 refine (sabort_any A hol).mono ?_
 rintro e w' ⟨rfl, P⟩
 exact ⟨rfl, .post B F P⟩
theorem qcommit {w0 w : World} {b n : Nat} {c : C} (h : ShS w0 w b n c) (hbr : c.broken = false) (hep : 0 ≤ c.ep) (hb : ∀ y ∈ c.table, y ≤ 1023) (hsl : c.slot = 0 ∨ c.slot = 1) (hc : c.d.calls ≤ 999999900) (ha : c.d.armed ≤ 9223372036854775807) (hol : c.parts.length ≤ 5)
  (hr : needT c.trimF.table.length ≤ (Fm.listF c.m 0).length → c.ep < 1099511627776 → Rt.rightR (c.ep + 1) (c.trimF.table.length : Nat) (Rt.natI ((takeN c.m (needT c.trimF.table.length)).2.map Int.toNat)) ∧ Rt.natI ((takeN c.m (needT c.trimF.table.length)).2.map Int.toNat) = (takeN c.m (needT c.trimF.table.length)).2) :
  Calls Tryz.prog 34 #[sp b] w fun e w' => e = .returned (.int .i64 (c.commitF n).2) ∧ ShS w0 w' b n (c.commitF n).1 := by
 obtain ⟨x, rfl, A, B, F⟩ := h
 refine (scommit_any A hbr hep hb hsl hc ha hol hr).mono ?_
 rintro e w' ⟨rfl, P⟩
 exact ⟨rfl, .post B F P⟩
/-- Format of a new disk -/
theorem qformat {w0 w : World} {L : Dk.Loc} {n : Nat} {d : D} (h : DiskAt w L n d) (B : Below w0.heap.size w0 w) (F : ∀ g ∈ L.fp, w0.heap.size ≤ g) (hp : 1 ≤ pagesF n) (hd : d.down = false) (ha : d.armed = 0) (hc : d.calls ≤ 1000) :
  Calls Tryz.prog 31 #[dp L.b] w fun e w' => ∃ b, e = .returned (.tuple #[sp b, .int .i64 0]) ∧ ShS w0 w' b n (formC d n) := by
 refine (format_any h hp hd ha hc).mono ?_
 rintro e w' ⟨x, e1, rfl, A, o, f⟩
 exact ⟨x.b, rfl, x, rfl, A, B.trans (o.below_of B.size F), fun g hg => (f g hg).elim (F g) (fun h => Nat.le_trans B.size h)⟩
theorem sact_view {H : Type} {enc : TypeId × Value → H} {P : Program} {w : World} {t : TypeId} {f0 f1 f2 : Field} {fuel : Nat} {cs : List Value} {x : DataW H × List MemPlace}
  (hs : P.underlying t = some (.struct #[f0, f1, f2])) (hC : P.cellsOf t = 3) (o0 : f0.offset = 0) (o1 : f1.offset = 1) (o2 : f2.offset = 2) (k0 : P.cellsOf f0.type = 1) (k1 : P.cellsOf f1.type = 1) (k2 : P.cellsOf f2.type = 1)
  (u0 : P.underlying f0.type = some (.int .i64)) (u1 : P.underlying f1.type = some (.int .i64)) (u2 : P.underlying f2.type = some .string)
  (h : DataW.trod enc P w 0 (fun _ => true) true fuel t cs = some x) : ∃ (kd l : Int) (s : ByteArray), cs = [.int .i64 kd, .int .i64 l, .string s] ∧ l ≤ 9223372036854775807 ∧ s.size ≤ maxLen := by
 obtain ⟨xs, n, _, _, hl, hxl, hf⟩ := DataW.trod_struct hs h
 obtain ⟨c0, c1, c2, rfl⟩ : ∃ a b c, cs = [a, b, c] := by
  match cs, hl.trans hC with
  | [a, b, c], _ => exact ⟨a, b, c, rfl⟩
 obtain ⟨y0, y1, y2, rfl⟩ : ∃ y0 y1 y2, xs = [y0, y1, y2] := by
  match xs, hxl with
  | [a, b, c], _ => exact ⟨a, b, c, rfl⟩
 have g0 := hf 0 f0 rfl
 have g1 := hf 1 f1 rfl
 have g2 := hf 2 f2 rfl
 rw [o0, k0] at g0
 rw [o1, k1] at g1
 rw [o2, k2] at g2
 simp only [List.drop_zero, List.drop_succ_cons, List.take_succ_cons, List.take_zero] at g0 g1 g2
 obtain ⟨r0, hr0, -⟩ := DataW.trod_int u0 (x := y0) (by simpa using g0)
 obtain ⟨r1, hr1, -, wf⟩ := DataW.trod_int u1 (x := y1) (by simpa using g1)
 obtain ⟨r2, hr2, -, hsz⟩ := DataW.trod_string u2 (x := y2) (by simpa using g2)
 simp only [List.cons.injEq, and_true] at hr0 hr1 hr2
 subst hr0 hr1 hr2
 have := Go.bounds_i64 wf
 exact ⟨r0, r1, r2, rfl, by omega, hsz⟩
set_option maxRecDepth 100000 in
theorem sact_of {H : Type} {enc : TypeId × Value → H} {w : World} {base : Nat} {v : Value} {d : DataW H} {ps : List MemPlace} (hok : Value.okWide Tryz.prog w .any base 31 v) (h : DataW.Trod enc Tryz.prog w 0 (fun _ => true) true 31 v d ps) :
  ∃ (kd l : Int) (s : ByteArray), v = .agg #[.int .i64 kd, .int .i64 l, .string s] ∧ l ≤ 9223372036854775807 ∧ s.size ≤ maxLen := by
 obtain ⟨cs, rfl, hsz⟩ := okWide_struct Tryz.underlying31 hok
 obtain ⟨fuel, hf⟩ := h
 obtain ⟨kd, l, s, h1, h2, h3⟩ := sact_view Tryz.underlying31 (by kernel_rfl) rfl rfl rfl (by kernel_rfl) (by kernel_rfl) (by kernel_rfl) Tryz.underlying3 Tryz.underlying3 Tryz.underlying9 (cs := cs.toList) (by simpa [Value.cells] using hf)
 exact ⟨kd, l, s, by congr 1; exact Array.toList_inj.1 h1, h2, h3⟩
def wk0 : C := formC (D.zero 50) 50
def wk1 : C := (wk0.newF 50 [97]).1
def wk2 : C := (wk1.commitF 50).1
def wk3 : C := (wk2.writeF 50 0 [98]).1
set_option maxRecDepth 100000 in
theorem wk1_e : (wk0.newF 50 [97]).2 = (0, 0) ∧ wk0.ep = 1 ∧ wk0.d.calls ≤ 100 ∧ wk0.d.armed = 0 := by decide +kernel
set_option maxRecDepth 100000 in
theorem wk2_e : (wk1.commitF 50).2 = 0 ∧ wk1.broken = false ∧ wk1.ep = 1 ∧ wk1.table = [0] ∧ wk1.slot = 0 ∧ wk1.d.calls ≤ 100 ∧ wk1.d.armed = 0 ∧ wk1.parts = [] ∧ wk1.trimF.table.length = 1 ∧ (takeN wk1.m 1).2 = [1] := by decide +kernel
set_option maxRecDepth 100000 in
theorem wk3_e : wk2.ep = 2 ∧ wk2.table = [0] ∧ wk2.old = [0] ∧ wk2.d.calls ≤ 100 ∧ wk2.d.armed = 0 := by decide +kernel
set_option maxRecDepth 100000 in
theorem wk3_r : wk3.readF 50 0 = (padL [98] 232, 0) ∧ wk3.old = [0] := by decide +kernel
set_option maxRecDepth 100000 in
theorem wk4_r : wk3.abortF.readF 50 0 = (padL [97] 232, 0) ∧ wk3.abortF.ep = 2 := by decide +kernel
theorem wk_right : Rt.rightR (wk1.ep + 1) (wk1.trimF.table.length : Nat) (Rt.natI ((takeN wk1.m (needT wk1.trimF.table.length)).2.map Int.toNat)) ∧ Rt.natI ((takeN wk1.m (needT wk1.trimF.table.length)).2.map Int.toNat) = (takeN wk1.m (needT wk1.trimF.table.length)).2 := by
 obtain ⟨_, _, h3, _, _, _, _, _, h9, h10⟩ := wk2_e
 rw [h9, h3, show needT 1 = 1 from rfl, h10]
 refine ⟨⟨by decide, by decide, by decide, by decide, by decide, ?_⟩, rfl⟩
 intro i x hx
 have hx : ([1] : List Int)[i]? = some x := hx
 cases i with
 | zero => injection hx with hx; subst hx; simp
 | succ i => simp at hx
set_option maxRecDepth 100000 in
set_option maxHeartbeats 4000000 in
theorem awake14 (w : World) :
  Calls Tryz.prog 14 #[] w fun e w' => e = .returned (.bool true) ∧ Below w.heap.size w w' := by
 have KN := Lib.hid (Dk.new_yes 50 w (by omega) (by omega))
 have KF := Lib.hid (fun (W : World) (L : Dk.Loc) (h : DiskAt W L 50 (D.zero 50)) (B : Below w.heap.size w W) (F : ∀ g ∈ L.fp, w.heap.size ≤ g) => qformat h B F (by decide) rfl rfl (by decide))
 rw [show formC (D.zero 50) 50 = wk0 from rfl] at KF
 have K1 := Lib.hid (fun (W : World) (b : Nat) (h : ShS w W b 50 wk0) => qnew h ⟨#[97]⟩ (by decide) (by rw [wk1_e.2.1]; omega) (by have := wk1_e.2.2.1; omega) (by rw [wk1_e.2.2.2]; omega))
 rw [show (⟨#[97]⟩ : ByteArray).data.toList = [97] from rfl, wk1_e.1, show (wk0.newF 50 [97]).1 = wk1 from rfl] at K1
 have K2 := Lib.hid (fun (W : World) (b : Nat) (h : ShS w W b 50 wk1) => qcommit h wk2_e.2.1 (by rw [wk2_e.2.2.1]; omega) (fun y hy => by rw [wk2_e.2.2.2.1] at hy; simp at hy; omega) (.inl wk2_e.2.2.2.2.1) (by have := wk2_e.2.2.2.2.2.1; omega) (by rw [wk2_e.2.2.2.2.2.2.1]; omega) (by rw [wk2_e.2.2.2.2.2.2.2.1]; simp) (fun _ _ => wk_right))
 rw [wk2_e.1, show (wk1.commitF 50).1 = wk2 from rfl] at K2
 have K3 := Lib.hid (fun (W : World) (b : Nat) (h : ShS w W b 50 wk2) => qwrite h 0 ⟨#[98]⟩ (by decide) (by rw [wk3_e.1]; omega) (by have := wk3_e.2.2.2.1; omega) (by rw [wk3_e.2.2.2.2]; omega) (fun k => by
  rw [wk3_e.2.1]
  cases k with
  | zero => decide
  | succ k => simp [List.getD]))
 rw [show (⟨#[98]⟩ : ByteArray).data.toList = [98] from rfl, show (wk2.writeF 50 0 [98]).1 = wk3 from rfl] at K3
 generalize (wk2.writeF 50 0 [98]).2 = er at K3
 have K4 := Lib.hid (fun (W : World) (b : Nat) (h : ShS w W b 50 wk3) => qread h 0)
 rw [wk3_r.1] at K4
 have K5 := Lib.hid (fun (W : World) (b : Nat) (h : ShS w W b 50 wk3) => qabort h (by rw [wk3_r.2]; decide))
 have K6 := Lib.hid (fun (W : World) (b : Nat) (h : ShS w W b 50 wk3.abortF) => qread h 0)
 rw [wk4_r.1] at K6
 have K7 := Lib.hid (fun (W : World) (b : Nat) (h : ShS w W b 50 wk3.abortF) => qepoch h)
 rw [wk4_r.2] at K7
 have U1 := Lib.hid (fun W => rfull_any ⟨#[97]⟩ (by decide) W)
 have U2 := Lib.hid (fun W => rfull_any ⟨#[98]⟩ (by decide) W)
 rw [show (⟨#[97]⟩ : ByteArray).data.toList = [97] from rfl] at U1
 rw [show (⟨#[98]⟩ : ByteArray).data.toList = [98] from rfl] at U2
 generalize padL [97] 232 = P1 at *
 generalize padL [98] 232 = P2 at *
 unfold sp dp at *
 generalize wk0 = c0 at *
 generalize wk1 = c1 at *
 generalize wk2 = c2 at *
 generalize wk3.abortF = c4 at *
 generalize wk3 = c3 at *
 go_enter Tryz.func14, Tryz.ntmps14
 go_wp2_with fail
 refine KN.out.mono ?_
 rintro e w1 ⟨L, rfl, D1, hb1, fr⟩
 have H1 := Lib.hid (show DiskAt w1 L 50 (D.zero 50) ∧ Below w.heap.size w w1 ∧ ∀ g ∈ L.fp, w.heap.size ≤ g from ⟨D1, hb1, fr⟩)
 clear D1 hb1 fr
 go_wp2_with fail
 refine (KF.out _ _ H1.out.1 H1.out.2.1 H1.out.2.2).mono ?_
 rintro e w2 ⟨b, rfl, S⟩
 have S2 := Lib.hid S
 clear S
 go_wp2_with fail
 refine (K1.out _ _ S2.out).mono ?_
 rintro e w3 ⟨rfl, S⟩
 have S3 := Lib.hid S
 clear S
 go_wp2_with fail
 refine (K2.out _ _ S3.out).mono ?_
 rintro e w4 ⟨rfl, S⟩
 have S4 := Lib.hid S
 clear S
 go_wp2_with fail
 refine (K3.out _ _ S4.out).mono ?_
 rintro e w5 ⟨rfl, S⟩
 have S5 := Lib.hid S
 clear S
 go_wp2_with fail
 refine (K4.out _ _ S5.out).mono ?_
 rintro e w6 ⟨rfl, S⟩
 have S6 := Lib.hid S
 clear S
 go_wp2_with fail
 refine (K5.out _ _ S6.out).mono ?_
 rintro e w7 ⟨rfl, S⟩
 have S7 := Lib.hid S
 clear S
 go_wp2_with fail
 refine (K6.out _ _ S7.out).mono ?_
 rintro e w8 ⟨rfl, S⟩
 have S8 := Lib.hid S
 clear S
 go_wp2_with fail
 refine (U1.out _).mono ?_
 rintro e w9 ⟨rfl, hb9⟩
 have S9 := Lib.hid (S8.out.below hb9)
 clear hb9
 go_wp2_with fail
 refine (U2.out _).mono ?_
 rintro e w10 ⟨rfl, hb10⟩
 have S10 := Lib.hid (S9.out.below hb10)
 clear hb10
 go_wp2_with fail
 refine (K7.out _ _ S10.out).mono ?_
 rintro e w11 ⟨rfl, rfl⟩
 go_wp2_with fail
 go_ret
 exact ⟨by first | rfl | simp, S10.out.out⟩
end Go.Proofs.YtbelcgjbhpjnpaaGreat.Sh
