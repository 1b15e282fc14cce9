/- shadow's laws: Images, what the law reads of a disk that is up. -/
import Derived.Test.YtbelcgjbhpjnpaaGreatU4
import Derived.Test.YtbelcgjbhpjnpaaGreatDf
import Derived.Test.YtbelcgjbhpjnpaaGreatFv
set_option linter.all false
set_option linter.unusedVariables false
set_option linter.unusedSimpArgs false
namespace Go.Proofs.YtbelcgjbhpjnpaaGreat.Sh
open Go.RowKit Pk Dk Pg Go.Deep Go.ChangeShapes Go.WideShapes
attribute [local go_sem ↓] Go.wp_at_zero Go.wp_at_succ
theorem writeF_up (d : Dk.D) (n : Nat) (i : Int) (s : List UInt8) (h : d.down = false) (ha : d.armed = 0) : (d.writeF n i s).1.down = false := by
 have e : ∀ j t, (d.putF j t).armed = d.armed ∧ (d.putF j t).down = d.down := by
  intro j t
  unfold D.putF D.keepF
  split <;> exact ⟨rfl, rfl⟩
 unfold D.writeF
 split
 ·unfold D.countF
  rw [if_pos ((e i.toNat s).1.trans ha)]
  exact (e i.toNat s).2.trans h
 ·exact h
/-- a disk that is up -/
def DU (w0 w : World) (L : Dk.Loc) (n : Nat) (d : Dk.D) : Prop := DiskAt w L n d ∧ d.down = false ∧ 1 ≤ n ∧ Below w0.heap.size w0 w ∧ ∀ g ∈ L.fp, w0.heap.size ≤ g
theorem DU.below {w0 w w' : World} {L : Dk.Loc} {n : Nat} {d : Dk.D} (h : DU w0 w L n d) (hb : Below w.heap.size w w') : DU w0 w' L n d :=
 ⟨h.1.below hb, h.2.1, h.2.2.1, bstep h.2.2.2.1 hb, h.2.2.2.2⟩
theorem LL.write_ {w0 w : World} {L : Dk.Loc} {b rb n K : Nat} (h : LL w0 w L b rb n K) (hK : K ≤ 999) (hn : 1 ≤ n) : (∃ d, DU w0 w L n d) ∧ ∀ (i : Int) (s : ByteArray),
  Calls Tryz.prog 37 #[dp L.b, .int .i64 i, .string s] w fun e w' => ∃ q, e = .returned (.int .i64 q) ∧ ∃ d, DU w0 w' L n d := by
 obtain ⟨x, c, a, tw, rfl, rfl, S⟩ := h
 have A0 := S.at_
 rw [armed_zero S.g.arm] at A0
 have h0 : DU w0 w x.L n c.d := ⟨A0.hd, S.g.up, hn, S.b0, fun g hg => S.fr g (by simp [X.fp, hg])⟩
 refine ⟨⟨_, h0⟩, fun i s => (Dk.write_any A0.hd i s (by have := S.bc; omega) (by rw [S.g.arm]; decide)).mono ?_⟩
 rintro e w' ⟨rfl, D', o⟩
 exact ⟨_, rfl, _, D', writeF_up _ _ _ _ S.g.up S.g.arm, hn, S.b0.trans (o.below_of S.b0.size h0.2.2.2.2), h0.2.2.2.2⟩
theorem du_of {w0 w : World} (hb : Below w0.heap.size w0 w) (s : ByteArray) (h0 : 0 < s.size) (h1 : s.size < 3000) :
  Calls Tryz.prog 38 #[.string s] w fun e w' => ∃ L n, e = .returned (.tuple #[dp L.b, .int .i64 0]) ∧ ∃ d, DU w0 w' L n d := by
 refine (Dk.of_some s w h0 (by omega)).mono ?_
 rintro e w' ⟨L, rfl, D, b, f⟩
 refine ⟨L, _, rfl, _, D, rfl, ?_, bstep hb b, fun g hg => Nat.le_trans hb.size (f g hg)⟩
 unfold Dk.sectorsF
 have hl : s.data.toList.length = s.size := by simp
 omega
set_option maxRecDepth 100000 in
theorem open_one {w : World} {L : Dk.Loc} {d : Dk.D} (h : DiskAt w L 1 d) (hd : d.down = false) :
  Calls Tryz.prog 30 #[dp L.b] w fun e w' => e = .returned (.tuple #[.pointer none, .int .i64 3]) ∧ w = w' := by
 have K0 := Dk.read_any h ((0 : Nat) : Int)
 have K1 := Dk.read_any h ((1 : Nat) : Int)
 rw [readF_up d 1 0 (by omega) hd] at K0
 have e1 : d.readF 1 ((1 : Nat) : Int) = ([], 3) := by
  have ha : d.atF 1 ((1 : Nat) : Int) = 3 := by
   unfold D.atF
   rw [if_neg (by rw [hd]; decide), if_neg (by omega)]
  unfold D.readF
  rw [if_neg (by rw [ha]; decide), ha]
 rw [e1] at K1
 generalize sec d.now 0 = u0 at *
 have K0 := Lib.hid K0
 have K1 := Lib.hid K1
 clear h hd e1
 unfold dp at *
 go_enter Tryz.func30, Tryz.ntmps30
 go_wp2_with fail
 refine K0.out.mono ?_
 rintro e w1 ⟨rfl, rfl⟩
 go_wp2_with fail
 refine K1.out.mono ?_
 rintro e w1 ⟨rfl, rfl⟩
 go_wp2_with fail
 go_ret2
 exact ⟨rfl, rfl⟩
/-- what Open gives -/
def OpenE (w0 : World) (L : Dk.Loc) (n : Nat) (e : Ending) (w' : World) : Prop :=
 (∃ code : Int, e = .returned (.tuple #[.pointer none, .int .i64 code]) ∧ (∃ d, DU w0 w' L n d) ∧ (code = 14 ∨ code = 3 ∧ n = 1)) ∨
 (∃ (b : Nat) (d : Dk.D), e = .returned (.tuple #[sp b, .int .i64 0]) ∧ d.down = false ∧ Below w0.heap.size w0 w' ∧ ∃ (R Q : List Int) (ep : Int),
  R.length ≤ 1000 ∧ Q.length ≤ 1000 ∧ (∀ (i : Nat) (y : Int), R[i]? = some y → PgIn d n ep y) ∧
  ∀ W, Below w'.heap.size w' W → DiskAt W L n d ∧
   Calls Tryz.prog 24 #[sp b] W (fun e w' => ∃ v', e = .returned v' ∧ Sl w' 3 v' R.length (nvs' R) ∧ Below W.heap.size W w') ∧
   Calls Tryz.prog 36 #[sp b] W (fun e w' => ∃ v', e = .returned v' ∧ Sl w' 3 v' Q.length (nvs' Q) ∧ Below W.heap.size W w') ∧
   Calls Tryz.prog 27 #[sp b] W (fun e w' => e = .returned (.int .i64 ep) ∧ W = w') ∧
   ∀ (i : Nat) (y : Int), Q[i]? = some y → Calls Tryz.prog 29 #[sp b, .int .i64 y] W (fun e w' => ∃ s, e = .returned (.tuple #[.string s, .int .i64 0]) ∧ Below W.heap.size W w'))
theorem DU.open_ {w0 w : World} {L : Dk.Loc} {n : Nat} {d : Dk.D} (h : DU w0 w L n d) : Calls Tryz.prog 30 #[dp L.b] w (OpenE w0 L n) := by
 obtain ⟨hD, hd, hn, hb, hf⟩ := h
 by_cases h1 : n = 1
 ·subst h1
  refine (open_one hD hd).mono ?_
  rintro e w' ⟨rfl, rfl⟩
  exact .inl ⟨3, rfl, ⟨d, hD, hd, hn, hb, hf⟩, .inr ⟨rfl, rfl⟩⟩
 ·refine (open_any hD hd (by omega)).mono fun e w' h => ?_
  obtain ⟨D', o, h⟩ := open_says hd h
  have hb' := hb.trans (o.below_of hb.size hf)
  rcases h with rfl | ⟨x, c, rfl, rfl, A, _, e1, e2, e3, e4, e5, e6⟩
  ·exact .inl ⟨14, rfl, ⟨d, D', hd, hn, hb', hf⟩, .inl rfl⟩
  ·exact .inr ⟨x.b, d, rfl, hd, hb', open_asks A e1 e2 e3 e4 e5 e6⟩
/-- how many sectors -/
theorem DU.sectors {w0 w : World} {L : Dk.Loc} {n : Nat} {d : Dk.D} (h : DU w0 w L n d) : Calls Tryz.prog 39 #[dp L.b] w fun e w' => e = .returned (.int .i64 n) ∧ w = w' := Dk.sectors_any h.1
/-! what comes in: an Image -/
set_option maxRecDepth 100000 in
theorem image_of {H : Type} {enc : TypeId × Value → H} {w : World} {base : Nat} {v : Value} {d : DataW H} {ps : List MemPlace} (hok : Value.okWide Tryz.prog w .any base 70 v) (h : DataW.Trod enc Tryz.prog w 0 (fun _ => true) true 70 v d ps) :
  ∃ (A : Option Addr) (m cc : Nat) (F : Nat → Sa) (at_ : Int) (b img : ByteArray), v = .agg #[.slice A m cc, .int .i64 at_, .string b, .string img] ∧ m ≤ 9223372036854775807 ∧ SActs w A m F := by
 obtain ⟨cs, rfl, hsz⟩ := okWide_struct Tryz.underlying70 hok
 obtain ⟨fuel, hf⟩ := h
 obtain ⟨xs, n, _, _, hl, hxl, hf⟩ := DataW.trod_struct Tryz.underlying70 (cs := cs.toList) (by simpa [Value.cells] using hf)
 obtain ⟨c0, c1, c2, c3, hcs⟩ : ∃ a b c d, cs.toList = [a, b, c, d] := by
  match cs.toList, hl.trans (show Tryz.prog.cellsOf 70 = 4 by kernel_rfl) with
  | [a, b, c, d], _ => exact ⟨a, b, c, d, rfl⟩
 rw [hcs] at hf
 obtain ⟨y0, y1, y2, y3, rfl⟩ : ∃ y0 y1 y2 y3, xs = [y0, y1, y2, y3] := by
  match xs, hxl with
  | [a, b, c, d], _ => exact ⟨a, b, c, d, rfl⟩
 have g0 : DataW.trod enc Tryz.prog w 0 (fun _ => true) true n 22 (List.take (Tryz.prog.cellsOf 22) (List.drop 0 [c0, c1, c2, c3])) = some y0 := hf 0 _ rfl
 have g1 : DataW.trod enc Tryz.prog w 0 (fun _ => true) true n 3 (List.take (Tryz.prog.cellsOf 3) (List.drop 1 [c0, c1, c2, c3])) = some y1 := hf 1 _ rfl
 have g2 : DataW.trod enc Tryz.prog w 0 (fun _ => true) true n 9 (List.take (Tryz.prog.cellsOf 9) (List.drop 2 [c0, c1, c2, c3])) = some y2 := hf 2 _ rfl
 have g3 : DataW.trod enc Tryz.prog w 0 (fun _ => true) true n 9 (List.take (Tryz.prog.cellsOf 9) (List.drop 3 [c0, c1, c2, c3])) = some y3 := hf 3 _ rfl
 rw [show Tryz.prog.cellsOf 22 = 1 by kernel_rfl] at g0
 rw [show Tryz.prog.cellsOf 3 = 1 by kernel_rfl] at g1
 rw [show Tryz.prog.cellsOf 9 = 1 by kernel_rfl] at g2 g3
 simp only [List.drop_zero, List.drop_succ_cons, List.take_succ_cons, List.take_zero] at g0 g1 g2 g3
 obtain ⟨A, m, cc, F, e0, hm, hA⟩ := sacts_view g0
 obtain ⟨r1, e1, -⟩ := DataW.trod_int Tryz.underlying3 (x := y1) g1
 obtain ⟨r2, e2, -⟩ := DataW.trod_string Tryz.underlying9 (x := y2) g2
 obtain ⟨r3, e3, -⟩ := DataW.trod_string Tryz.underlying9 (x := y3) g3
 simp only [List.cons.injEq, and_true] at e0 e1 e2 e3
 subst e0 e1 e2 e3
 exact ⟨A, m, cc, F, r1, r2, r3, by congr 1; exact Array.toList_inj.1 hcs, hm, hA⟩
end Go.Proofs.YtbelcgjbhpjnpaaGreat.Sh
