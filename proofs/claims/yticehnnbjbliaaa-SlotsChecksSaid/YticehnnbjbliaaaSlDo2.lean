/- slots: do whole, and calls that came in. -/
import Derived.Test.YticehnnbjbliaaaSlDo
namespace Go.Proofs.Yticehnnbjbliaaa.Sl
open Go.RowKit Go.Deep Go.ChangeShapes Go.WideShapes

theorem compactG_ok {b : List UInt8} (h : Sound b) : compactG b = (compactF b, 0) := by unfold compactG; rw [if_pos ((checkF_ok b).2 h)]
theorem delG_ok {b : List UInt8} (h : Sound b) (i : Nat) (hi : i < (recs b).length) : delG b i = (delF b i, 0) ∧ Sound (delF b i) ∧ recs (delF b i) = (recs b).take i ++ (recs b).drop (i + 1) := by
  rw [recs_length] at hi
  refine ⟨?_, h.delete i hi⟩
  unfold delG
  rw [if_pos ((checkF_ok b).2 h), if_pos ⟨by omega, by omega⟩, Int.toNat_natCast]
theorem delG_range {b : List UInt8} (h : Sound b) (i : Int) (hi : ¬ (0 ≤ i ∧ i < ((recs b).length : Int))) : delG b i = ([], 3) := by
  rw [recs_length] at hi
  unfold delG
  rw [if_pos ((checkF_ok b).2 h), if_neg hi]
set_option maxRecDepth 100000 in
set_option maxHeartbeats 4000000 in
theorem do_compact {w : World} {base : Nat} {b : ByteArray} {v : Value} {l : List (List UInt8)} (h : Pair w base b v l) (i : Int) (r : ByteArray) :
    Calls Try.prog 13 #[.string b, v, actV 6 i r] w (Did w base) := by
  have hsz : b.size = 232 := by have := h.s.len; simpa using this
  obtain ⟨A, c, rfl⟩ := slc_val h.S
  have b0 := (Below.refl w.heap.size w).alloc (Nat.le_refl _) (.cells #[.int .i64 6, .int .i64 i, .string r] 33)
  have H0 := Lib.hid (h.below b0)
  have O0 := Lib.hid b0
  have KI := Lib.hid (fun w' => compact_any b w' (by omega))
  obtain ⟨s1, r1, -, -⟩ := h.s.compact
  obtain ⟨T, hT⟩ := ba_of (compactF b.data.toList)
  rw [compactG_ok h.s, ← hT, ba_eq] at KI
  rw [← hT] at s1 r1
  rw [h.r] at r1
  have HF := Lib.hid (show Sound T.data.toList ∧ recs T.data.toList = l from ⟨s1, r1⟩)
  clear s1 r1 hT h b0 hsz
  unfold actV
  go_enter Try.func13, Try.ntmps13
  go_wp2_with fail
  refine (KI.out _).mono ?_
  rintro e w1 ⟨rfl, hb1⟩
  have H1 := Lib.hid (H0.out.below hb1)
  have O1 := Lib.hid (bstep O0.out hb1)
  clear hb1
  go_wp2_with fail
  go_ret3
  exact ⟨_, _, _, rfl, ⟨HF.out.1, HF.out.2, H1.out.S, H1.out.F⟩, O1.out⟩
set_option maxRecDepth 100000 in
set_option maxHeartbeats 4000000 in
theorem do_take {w : World} {base : Nat} {b : ByteArray} {v : Value} {l : List (List UInt8)} (h : Pair w base b v l) (hb : base ≤ w.heap.size) (k i : Int) (k0 : (k == 0) = false) (k1 : (k == 1) = false) (k2 : (k == 2) = false) (k3 : (k == 3) = false) (k6 : (k == 6) = false) (r : ByteArray) :
    Calls Try.prog 13 #[.string b, v, actV k i r] w (Did w base) := by
  have hsz : b.size = 232 := by have := h.s.len; simpa using this
  have hmany := recs_many h.s
  rw [h.r] at hmany
  obtain ⟨A, c, rfl⟩ := slc_val h.S
  have b0 := (Below.refl w.heap.size w).alloc (Nat.le_refl _) (.cells #[.int .i64 k, .int .i64 i, .string r] 33)
  have H0 := Lib.hid (h.below b0)
  have O0 := Lib.hid b0
  have B0 := Lib.hid (Blk.new w 33 #[.int .i64 k, .int .i64 i, .string r])
  have KI := Lib.hid (fun w' => delete_any b i w' (by omega))
  by_cases hi : 0 ≤ i ∧ i < (l.length : Int)
  · obtain ⟨j, rfl⟩ := Int.eq_ofNat_of_zero_le hi.1
    have hj : j < l.length := by omega
    obtain ⟨i1, s1, r1⟩ := delG_ok h.s j (by rw [h.r]; exact hj)
    obtain ⟨T, hT⟩ := ba_of (delF b.data.toList j)
    rw [← hT] at i1 s1 r1
    rw [i1, ba_eq] at KI
    rw [h.r] at r1
    have HP := Lib.hid (fun (w' : World) (S : Slc w' 9 1 (.slice A l.length c) l.length (strs l)) => rtake_any S j hj (by omega))
    have HF := Lib.hid (fun (w1 w2 : World) (v2 : Value) (hp : Put1 w1 (l.length - 1) (l.take j ++ l.drop (j + 1)) w2 v2) (hb : base ≤ w1.heap.size) => hp.pair T s1 r1 (by simp; omega) hb)
    have hi2 := hi.2
    clear i1 s1 r1 hT h b0 hi
    unfold actV
    go_enter Try.func13, Try.ntmps13
    go_wp2_with fail
    generalize w.alloc (.cells _ 33) = W at *
    have c1 := B0.out.cell_some (i := 1) rfl
    refine (KI.out _).mono ?_
    rintro e w1 ⟨rfl, hb1⟩
    have H1 := Lib.hid (H0.out.below hb1)
    have O1 := Lib.hid (bstep O0.out hb1)
    have B1 := Lib.hid (B0.out.below hb1 B0.out.lt)
    have c1 := B1.out.cell_some (i := 1) rfl
    have KP := Lib.hid (HP.out _ H1.out.S)
    clear hb1
    go_wp2_with fail
    refine KP.out.mono ?_
    rintro e w3 ⟨v3, rfl, P3⟩
    have R3 := Lib.hid (HF.out _ _ _ P3 (Nat.le_trans hb O1.out.size))
    have O3 := Lib.hid (bstep O1.out P3.2.1)
    clear P3
    go_wp2_with fail
    go_ret3
    exact ⟨_, _, _, rfl, R3.out, O3.out⟩
  · have i1 := delG_range h.s i (by rw [h.r]; exact hi)
    rw [i1] at KI
    have hx : i < 0 ∨ (¬ i < 0 ∧ (l.length : Int) ≤ i) := by omega
    clear i1 h b0 hi
    rcases hx with h1 | ⟨h1, h2⟩
    all_goals
      unfold actV
      go_enter Try.func13, Try.ntmps13
      go_wp2_with fail
      generalize w.alloc (.cells _ 33) = W at *
      have c1 := B0.out.cell_some (i := 1) rfl
      refine (KI.out _).mono ?_
      rintro e w1 ⟨rfl, hb1⟩
      have H1 := Lib.hid (H0.out.below hb1)
      have O1 := Lib.hid (bstep O0.out hb1)
      have B1 := Lib.hid (B0.out.below hb1 B0.out.lt)
      have c1 := B1.out.cell_some (i := 1) rfl
      clear hb1
      go_wp2_with fail
      go_ret3
      exact ⟨_, _, _, rfl, H1.out, O1.out⟩
theorem do_any {w : World} {base : Nat} {b : ByteArray} {v : Value} {l : List (List UInt8)} (h : Pair w base b v l) (hb : base ≤ w.heap.size) (k i : Int) (r : ByteArray) (hr : r.size ≤ 1000) :
    Calls Try.prog 13 #[.string b, v, actV k i r] w (Did w base) := by
  by_cases k0 : k = 0 ∨ k = 1 ∨ k = 2 ∨ k = 3
  · exact do_put h hb k i k0 r hr
  by_cases k6 : k = 6
  · subst k6; exact do_compact h i r
  have q0 : k ≠ 0 := fun e => k0 (.inl e)
  have q1 : k ≠ 1 := fun e => k0 (.inr (.inl e))
  have q2 : k ≠ 2 := fun e => k0 (.inr (.inr (.inl e)))
  have q3 : k ≠ 3 := fun e => k0 (.inr (.inr (.inr e)))
  exact do_take h hb k i (by simpa using q0) (by simpa using q1) (by simpa using q2) (by simpa using q3) (by simpa using k6) r

/-! calls that came in -/
structure Ac where
  kind : Int
  i : Int
  r : ByteArray
instance : Inhabited Ac := ⟨⟨0, 0, .empty⟩⟩
structure ActAt (w : World) (ad : Addr) (a : Ac) : Prop where
  c0 : w.cell? ad = some (.int .i64 a.kind)
  c1 : w.cell? ⟨ad.block, ad.off + 1, none⟩ = some (.int .i64 a.i)
  c2 : w.cell? ⟨ad.block, ad.off + 2, none⟩ = some (.string a.r)
  hr : a.r.size ≤ 9223372036854775807
def Acts (w : World) (A : Option Addr) (n : Nat) (F : Nat → Ac) : Prop := ∀ k, k < n → ∃ ad, A = some ad ∧ ActAt w (ad.add (k * 3)) (F k)
theorem ActAt.below {w w' : World} {ad : Addr} {a : Ac} (h : ActAt w ad a) (hb : Below w.heap.size w w') : ActAt w' ad a := by
  have hlt := cell_lt' h.c0
  exact ⟨(hb.cell hlt).trans h.c0, (hb.cell (p := ⟨ad.block, ad.off + 1, none⟩) hlt).trans h.c1, (hb.cell (p := ⟨ad.block, ad.off + 2, none⟩) hlt).trans h.c2, h.hr⟩
theorem Acts.below {w w' : World} {A : Option Addr} {n : Nat} {F : Nat → Ac} (h : Acts w A n F) (hb : Below w.heap.size w w') : Acts w' A n F := by
  intro k hk
  obtain ⟨ad, e, h1⟩ := h k hk
  exact ⟨ad, e, h1.below hb⟩
theorem add_at (a : Addr) (i j : Nat) (hj : 0 < j) : (a.add i).add j = ⟨(a.add i).block, (a.add i).off + j, none⟩ := by
  rw [Addr.add, if_neg (by omega)]
theorem add_zero' (a : Addr) : a.add 0 = a := by simp [Addr.add]
theorem act_cells {H : Type} {enc : TypeId × Value → H} {w : World} {fuel : Nat} {cs : List Value} {x : DataW H × List MemPlace}
    (h : DataW.trod enc Try.prog w 0 (fun _ => true) true fuel 33 cs = some x) : ∃ a : Ac, cs = [.int .i64 a.kind, .int .i64 a.i, .string a.r] ∧ a.r.size ≤ maxLen := by
  obtain ⟨xs, n, _, _, hl, hxl, hf⟩ := DataW.trod_struct Try.underlying33 h
  have hcl : Try.prog.cellsOf 33 = 3 := by kernel_rfl
  obtain ⟨q0, q1, q2, rfl⟩ : ∃ a b c, cs = [a, b, c] := by
    match cs, hl.trans hcl with
    | [a, b, c], _ => exact ⟨a, b, c, rfl⟩
  obtain ⟨y0, y1, y2, rfl⟩ : ∃ y0 y1 y2, xs = [y0, y1, y2] := by
    match xs, hxl with
    | [a, b, c], _ => exact ⟨a, b, c, rfl⟩
  have g0 := hf 0 _ rfl
  have g1 := hf 1 _ rfl
  have g2 := hf 2 _ rfl
  obtain ⟨r0, hr0, _⟩ := DataW.trod_int (x := y0) Try.underlying3 (cs := [q0]) g0
  obtain ⟨r1, hr1, _⟩ := DataW.trod_int (x := y1) Try.underlying3 (cs := [q1]) g1
  obtain ⟨r2, hr2, _, hsz⟩ := DataW.trod_string (x := y2) Try.underlying9 (cs := [q2]) g2
  simp only [List.cons.injEq, and_true] at hr0 hr1 hr2
  subst hr0 hr1 hr2
  exact ⟨⟨r0, r1, r2⟩, rfl, hsz⟩
theorem acts_of {H : Type} {enc : TypeId × Value → H} {w : World} {base : Nat} {v : Value} {d : DataW H} {ps : List MemPlace} (hok : Value.okWide Try.prog w .any base 29 v) (h : DataW.Trod enc Try.prog w 0 (fun _ => true) true 29 v d ps) :
    ∃ (A : Option Addr) (n c : Nat) (F : Nat → Ac), v = .slice A n c ∧ n ≤ 9223372036854775807 ∧ Acts w A n F := by
  obtain ⟨a0, len, cap, rfl⟩ := Go.WideShapes.okWide_slice Try.underlying29 hok
  obtain ⟨fuel, hf⟩ := h
  have hce : Try.prog.cellsOf 33 = 3 := by kernel_rfl
  rcases open_slice Try.underlying29 hf with ⟨hcs, _⟩ | ⟨a, len', cap', m, n, D, Pl, hcs, _, hl, hm, hmm, _, hall⟩
  · simp [Value.cells] at hcs
    obtain ⟨rfl, rfl, rfl⟩ := hcs
    exact ⟨none, 0, 0, fun _ => default, rfl, Nat.zero_le _, fun k hk => absurd hk (by omega)⟩
  · simp [Value.cells] at hcs
    obtain ⟨rfl, rfl, rfl⟩ := hcs
    simp at hmm
    have each : ∀ k, k < len → ∃ x : Ac, ActAt w (a.add (k * 3)) x := by
      intro k hk
      obtain ⟨cs', hcs, htr⟩ := hall k (by omega)
      rw [hce] at hcs
      obtain ⟨_, _, hget⟩ := World.cells?_some hcs
      obtain ⟨x, rfl, h2⟩ := act_cells htr
      have g0 := hget 0 (by omega)
      have g1 := hget 1 (by omega)
      have g2 := hget 2 (by omega)
      rw [add_zero'] at g0
      rw [add_at _ _ _ (by omega)] at g1 g2
      exact ⟨x, g0, g1, g2, by unfold maxLen at h2; omega⟩
    obtain ⟨F, hF⟩ := choose_lt (p := fun k x => ActAt w (a.add (k * 3)) x) each
    exact ⟨some a, len, cap, F, rfl, by unfold maxLen at hm; omega, fun k hk => ⟨a, rfl, hF k hk⟩⟩
end Go.Proofs.Yticehnnbjbliaaa.Sl
