/- both disks side by side: calls that came in, made. -/
import Derived.Test.YtclompapmbhijaaDiskDo2
namespace Go.Proofs.Ytclompapmbhijaa.Dk
open Go.RowKit Go.Deep

theorem crash_of_act {H : Type} {enc : TypeId × Value → H} {w : World} {fuel : Nat} {cs : List Value} {x : DataW H × List MemPlace}
    (h : DataW.trod enc Try.prog w 0 (fun _ => true) true fuel 45 cs = some x) : ∃ a : Ac, cs = a.cells ∧ a.C.At w ∧ a.C.m ≤ 9223372036854775807 ∧ a.s.size ≤ maxLen ∧ a.i ≤ 9223372036854775807 := by
  obtain ⟨a, h1, h2, h3, h4⟩ := act_view Try.underlying45 (by kernel_rfl) rfl rfl rfl rfl (by kernel_rfl) (by kernel_rfl) (by kernel_rfl) (by kernel_rfl) Try.underlying3 Try.underlying3 Try.underlying9 rfl
    Try.underlying25 rfl rfl rfl (by kernel_rfl) (by kernel_rfl) (by kernel_rfl) Try.underlying23 Try.underlying4 (by kernel_rfl) Try.underlying3 Try.underlying3 h
  refine ⟨a, h1, h2, h3, h4, ?_⟩
  subst h1
  obtain ⟨xs, n, _, _, hl, hxl, hf⟩ := DataW.trod_struct Try.underlying45 h
  obtain ⟨y0, y1, y2, y3, rfl⟩ : ∃ y0 y1 y2 y3, xs = [y0, y1, y2, y3] := by
    match xs, hxl with
    | [a, b, c, d], _ => exact ⟨a, b, c, d, rfl⟩
  have g1 := hf 1 _ rfl
  obtain ⟨q, hq, _, hw⟩ := DataW.trod_int (x := y1) Try.underlying3 (cs := [.int .i64 a.i]) g1
  injection hq with hq
  injection hq with _ hq
  rw [hq]
  exact (bounds_i64 hw).2
instance : Inhabited Ac := ⟨⟨0, 0, .empty, ⟨none, 0, 0, fun _ => false, 0, 0⟩⟩⟩
/-- calls that came in: their cells -/
structure ActAt (w : World) (ad : Addr) (a : Ac) : Prop where
  c0 : w.cell? ad = some (.int .i64 a.kind)
  c1 : w.cell? ⟨ad.block, ad.off + 1, none⟩ = some (.int .i64 a.i)
  c2 : w.cell? ⟨ad.block, ad.off + 2, none⟩ = some (.string a.s)
  c3 : w.cell? ⟨ad.block, ad.off + 3, none⟩ = some (.slice a.C.A a.C.m a.C.c)
  c4 : w.cell? ⟨ad.block, ad.off + 4, none⟩ = some (.int .i64 a.C.torn)
  c5 : w.cell? ⟨ad.block, ad.off + 5, none⟩ = some (.int .i64 a.C.bytes)
  C : a.C.At w
  hm : a.C.m ≤ 9223372036854775807
  hs : a.s.size ≤ 9223372036854775807
  hi : a.i ≤ 9223372036854775807
def Acts (w : World) (A : Option Addr) (n : Nat) (F : Nat → Ac) : Prop := ∀ k, k < n → ∃ ad, A = some ad ∧ ActAt w (ad.add (k * 6)) (F k)
theorem ActAt.below {w w' : World} {ad : Addr} {a : Ac} (h : ActAt w ad a) (hb : Below w.heap.size w w') : ActAt w' ad a := by
  have hlt := cell_lt' h.c0
  exact ⟨(hb.cell hlt).trans h.c0, (hb.cell (p := ⟨ad.block, ad.off + 1, none⟩) hlt).trans h.c1, (hb.cell (p := ⟨ad.block, ad.off + 2, none⟩) hlt).trans h.c2, (hb.cell (p := ⟨ad.block, ad.off + 3, none⟩) hlt).trans h.c3, (hb.cell (p := ⟨ad.block, ad.off + 4, none⟩) hlt).trans h.c4, (hb.cell (p := ⟨ad.block, ad.off + 5, none⟩) hlt).trans h.c5, h.C.below hb, h.hm, h.hs, h.hi⟩
theorem Acts.below {w w' : World} {A : Option Addr} {n : Nat} {F : Nat → Ac} (h : Acts w A n F) (hb : Below w.heap.size w w') : Acts w' A n F := by
  intro k hk
  obtain ⟨ad, e, h1⟩ := h k hk
  exact ⟨ad, e, h1.below hb⟩
theorem add_at (a : Addr) (i j : Nat) (hj : 0 < j) : (a.add i).add j = ⟨(a.add i).block, (a.add i).off + j, none⟩ := by
  rw [Addr.add, if_neg (by omega)]
theorem add_zero' (a : Addr) : a.add 0 = a := by simp [Addr.add]
theorem acts_of {H : Type} {enc : TypeId × Value → H} {w : World} {base : Nat} {v : Value} {d : DataW H} {ps : List MemPlace} (hok : Value.okWide Try.prog w .any base 22 v) (h : DataW.Trod enc Try.prog w 0 (fun _ => true) true 22 v d ps) :
    ∃ (A : Option Addr) (n c : Nat) (F : Nat → Ac), v = .slice A n c ∧ n ≤ 9223372036854775807 ∧ Acts w A n F := by
  obtain ⟨a0, len, cap, rfl⟩ := Go.WideShapes.okWide_slice Try.underlying22 hok
  obtain ⟨fuel, hf⟩ := h
  have hce : Try.prog.cellsOf 45 = 6 := by kernel_rfl
  rcases open_slice Try.underlying22 hf with ⟨hcs, _⟩ | ⟨a, len', cap', m, n, D, Pl, hcs, _, hl, hm, hmm, _, hall⟩
  · simp [Value.cells] at hcs
    obtain ⟨rfl, rfl, rfl⟩ := hcs
    exact ⟨none, 0, 0, fun _ => default, rfl, Nat.zero_le _, fun k hk => absurd hk (by omega)⟩
  · simp [Value.cells] at hcs
    obtain ⟨rfl, rfl, rfl⟩ := hcs
    simp at hmm
    have each : ∀ k, k < len → ∃ x : Ac, ActAt w (a.add (k * 6)) x := by
      intro k hk
      obtain ⟨cs', hcs, htr⟩ := hall k (by omega)
      rw [hce] at hcs
      obtain ⟨_, _, hget⟩ := World.cells?_some hcs
      obtain ⟨x, rfl, h2, h3, h4, h5⟩ := crash_of_act htr
      have g0 := hget 0 (by omega)
      have g1 := hget 1 (by omega)
      have g2 := hget 2 (by omega)
      have g3 := hget 3 (by omega)
      have g4 := hget 4 (by omega)
      have g5 := hget 5 (by omega)
      rw [add_zero'] at g0
      rw [add_at _ _ _ (by omega)] at g1 g2 g3 g4 g5
      exact ⟨x, g0, g1, g2, g3, g4, g5, h2, h3, by unfold maxLen at h4; omega, h5⟩
    obtain ⟨F, hF⟩ := choose_lt (p := fun k x => ActAt w (a.add (k * 6)) x) each
    exact ⟨some a, len, cap, F, rfl, by unfold maxLen at hm; omega, fun k hk => ⟨a, rfl, hF k hk⟩⟩
theorem Cr.At.lt {C : Cr} {w : World} (hC : C.At w) : ∀ ad, C.A = some ad → 0 < C.m → ad.block < w.heap.size := by
  intro ad e hp
  obtain ⟨ad', e', hc⟩ := hC 0 hp
  rw [e] at e'
  injection e' with e'
  subst e'
  exact cell_lt hc
theorem Mk.at {w0 : Nat} {w : World} {b n : Nat} {vS vW vI : Value} (h : Mk w0 w b n n n vS vW vI) (hn : 1 ≤ n) (hn2 : n ≤ 4096) : ∃ M, M.b = b ∧ XAt w M n (X.made n) ∧ ∀ y ∈ M.fp, w0 ≤ y := by
  obtain ⟨gS, cS, rS, rfl, BS, hcS, _⟩ := h.hS.form (by omega) (by omega)
  obtain ⟨gW, cW, rW, rfl, BW, hcW, _⟩ := h.hW.form (by omega) (by omega)
  obtain ⟨gI, cI, rI, rfl, BI, hcI, _⟩ := h.hI.form (by omega) (by omega)
  have nS := h.nS gS (by simp [ownB])
  have nW := h.nW gW (by simp [ownB])
  have nI := h.nI gI (by simp [ownB])
  have sw := h.sw gS (by simp [ownB])
  simp only [ownB, List.mem_singleton] at sw
  refine ⟨⟨b, gS, gW, gI, cS, cW, cI, rS, rW, rI⟩, rfl, ⟨h.hb, BS, BW, BI, sw, made_ok n hn2⟩, ?_⟩
  intro y hy
  have nb := h.nb
  simp only [XL.fp, List.mem_cons, List.not_mem_nil, or_false] at hy
  omega

/-- what made hands back -/
structure Made (w w' : World) (L : Loc) (M : XL) (n : Nat) (d : D) (x : X) : Prop where
  both : Both w' L M n d x
  below : Below w.heap.size w w'
  hc : d.calls ≤ 60
  hr : d.armed ≤ 9223372036854775807
  fr : ∀ y ∈ bfp L M, w.heap.size ≤ y

set_option maxRecDepth 100000 in
set_option maxHeartbeats 1000000 in
theorem made_no {w : World} (n : Int) (A : Option Addr) (m c : Nat) (h : n < 1 ∨ 4096 < n) :
    Calls Try.prog 9 #[.int .i64 n, .slice A m c] w fun e w' => e = .returned (.tuple #[.pointer none, .pointer none, .bool true]) ∧ w = w' := by
  have K := Lib.hid (new_no n w h)
  have h' : n < 1 ∨ (¬ n < 1 ∧ 4096 < n) := by omega
  clear h
  rcases h' with h | ⟨h, h1⟩
  all_goals
    go_enter Try.func9, Try.ntmps9
    go_wp2_with fail
    refine K.out.mono ?_
    rintro e w1 ⟨rfl, rfl⟩
    go_wp2_with fail
    go_ret3
    exact ⟨rfl, rfl⟩

set_option maxRecDepth 100000 in
set_option maxHeartbeats 4000000 in
theorem made_yes {w : World} (n : Nat) (A : Option Addr) (m c : Nat) (F : Nat → Ac) (hacts : Acts w A m F) (hm : m ≤ 9223372036854775807) (hn1 : 1 ≤ n) (hn : n ≤ 4096) :
    Calls Try.prog 9 #[.int .i64 n, .slice A m c] w fun e w' => ∃ L M d x, e = .returned (.tuple #[dp L.b, xp M.b, .bool true]) ∧ Made w w' L M n d x := by
  have KN := Lib.hid (new_yes n w hn1 hn)
  have HA := Lib.hid hacts
  clear hacts
  go_enter Try.func9, Try.ntmps9
  go_wp2_with fail
  refine KN.out.mono ?_
  rintro e w1 ⟨L, rfl, D1, hb1, fr⟩
  have fr := Lib.hid fr
  have HB1 := Lib.hid hb1
  have KX := Lib.hid (xmade_any n w1 hn)
  have HD1 := Lib.hid D1
  clear D1 hb1
  unfold dp
  go_wp2_with fail
  refine KX.out.mono ?_
  rintro e w2 ⟨b, vS, vW, vI, rfl, MK, hb2⟩
  obtain ⟨M, rfl, X2, frM⟩ := MK.at hn1 hn
  have D2 := HD1.out.below hb2
  have hap : L.gL ≠ M.gI := by
    have h1 := HD1.out.hL.lt
    have h2 := frM M.gI (by simp [XL.fp])
    omega
  have HO := Lib.hid (bstep HB1.out hb2)
  have FR := Lib.hid (show ∀ y ∈ bfp L M, w.heap.size ≤ y from fun y hy => by
    rcases List.mem_append.1 hy with h1 | h1
    · exact fr.out y h1
    · have := frM y h1; have := HB1.out.size; omega)
  have HB := Lib.hid (show Both w2 L M n (D.zero n) (X.made n) from ⟨D2, X2, Rel.made n hn, hap⟩)
  clear MK hb2 X2 frM D2 hap
  unfold xp
  go_wp2_with fail
  go_loopw [10] (fun iv wr => ∃ (k : Nat) (d : D) (x : X), k ≤ 60 ∧ iv = .int .i64 k ∧ Both wr L M n d x ∧ Below w.heap.size w wr ∧ Hid (d.calls ≤ k ∧ d.armed ≤ 9223372036854775807)) (fun iv _ => 60 - (intOf iv).toNat)
  case atStart => exact ⟨0, _, _, by omega, rfl, HB.out, HO.out, Lib.hid ⟨by show (0 : Int) ≤ _; omega, by show (0 : Int) ≤ _; omega⟩⟩
  case round =>
    obtain ⟨k, d, x, hk, rfl, hB, O, hq⟩ := hrel
    by_cases h : k < m ∧ k < 60
    · obtain ⟨h1, h2⟩ := h
      obtain ⟨ad, rfl, AT⟩ := (HA.out.below O) k h1
      have HAT := Lib.hid AT
      have c2 := AT.c2
      have hsz := AT.hs
      have HB3 := Lib.hid hB
      have HO3 := Lib.hid O
      have HAL := Lib.hid ((HA.out k h1))
      clear AT hB O
      by_cases hs : (F k).s.size < 500
      · have c0 := HAT.out.c0
        have c1 := HAT.out.c1
        have c3 := HAT.out.c3
        have c4 := HAT.out.c4
        have c5 := HAT.out.c5
        have HP := Lib.hid (show ∀ a, (F k).C.A = some a → 0 < (F k).C.m → a.block ∉ bfp L M from by
          intro a e hp hy
          obtain ⟨ad', e', A0⟩ := HAL.out
          have h3 := A0.C.lt a e hp
          have h4 := FR.out _ hy
          omega)
        have KD := Lib.hid (do_any HB3.out (by have := hq.out.1; omega) hq.out.2 (F k).kind (F k).i HAT.out.hi (F k).s (by omega) (F k).C HAT.out.C HAT.out.hm HP.out)
        unfold dp xp actV at KD
        generalize F k = a at *
        go_wp2_with fail
        refine KD.out.mono ?_
        rintro e w3 ⟨rfl, d3, x3, hB3, hc3, hr3, o3⟩
        have HC3 := Lib.hid (show d3.calls ≤ ((k + 1 : Nat) : Int) ∧ d3.armed ≤ 9223372036854775807 from ⟨by have := hq.out.1; omega, hr3⟩)
        clear hc3 hr3
        go_wp2_with fail
        go_roundw
        case rel => exact ⟨k + 1, d3, x3, by omega, by go_num, hB3, HO3.out.trans (o3.below_of HO3.out.size FR.out), HC3⟩
        case measure => simp [intOf]; omega
      · go_wp2_with fail
        go_roundw
        case rel => exact ⟨k + 1, d, x, by omega, by go_num, HB3.out, HO3.out, Lib.hid ⟨by have := hq.out.1; omega, hq.out.2⟩⟩
        case measure => simp [intOf]; omega
    · have hx : ¬ k < m ∨ (k < m ∧ ¬ k < 60) := by omega
      clear h
      have HB3 := Lib.hid hB
      have HO3 := Lib.hid O
      clear hB O
      rcases hx with h1 | ⟨h0, h1⟩
      all_goals
        go_wp2_with fail
        go_ret3
        exact ⟨L, M, d, x, rfl, HB3.out, HO3.out, by have := hq.out.1; omega, hq.out.2, FR.out⟩
end Go.Proofs.Ytclompapmbhijaa.Dk
