/- shadow by its contracts: Format. -/
import Derived.Test.YtbelcgjbhpjnpaaGreatSh7
namespace Go.Proofs.YtbelcgjbhpjnpaaGreat.Sh
open Go.RowKit Pk Dk Pg
attribute [local go_sem ↓] Go.wp_at_zero Go.wp_at_succ
/-- the first root's bytes -/
def root1 : List UInt8 := Rt.rootL 1 0 []
/-- a disk that was formatted -/
def formD (d : D) (n : Nat) : D := (((d.writeF n 0 root1).1.writeF n 1 []).1.syncF).1
def formC (d : D) (n : Nat) : C := { d := formD d n, m := List.replicate (pagesF n) 0, table := [], old := [], parts := [], ep := 1, slot := 0, broken := false }
theorem sync_fine {d : D} (hd : d.down = false) (ha : d.armed = 0) : d.syncF.2 = 0 ∧ d.syncF.1.down = false ∧ d.syncF.1.armed = 0 ∧ d.syncF.1.now = d.now := by
  obtain ⟨c1, c2, c3⟩ := count_quiet d ha
  unfold D.syncF
  rw [if_neg (by simp [hd]), if_pos c1]
  exact ⟨rfl, c3.trans hd, c2, count_now d⟩
theorem right1 : Rt.rightR 1 ((0 : Nat) : Int) (Rt.natI []) := by
  refine ⟨by omega, by omega, by omega, by omega, by decide, ?_⟩
  intro i x hx
  simp [Rt.natI] at hx
set_option maxRecDepth 100000 in
set_option maxHeartbeats 4000000 in
theorem format_any {w : World} {L : Dk.Loc} {n : Nat} {d : D} (h : DiskAt w L n d) (hp : 1 ≤ pagesF n) (hd : d.down = false) (ha : d.armed = 0) (hc : d.calls ≤ 1000) :
    Calls Tryz.prog 31 #[dp L.b] w fun e w' => ∃ x, x.L = L ∧ e = .returned (.tuple #[sp x.b, .int .i64 0]) ∧ At w' x n (formC d n) ∧ Only L.fp w w' ∧ ∀ g ∈ x.fp, g ∈ L.fp ∨ w.heap.size ≤ g := by
  have hn := h.ok.small
  have hn2 : 6 ≤ n := by unfold pagesF manyF at hp; omega
  have hc0 := h.ok.calls
  have hpn : pagesF n ≤ 1024 := by unfold pagesF; omega
  have w1f := write_fine (n := n) (k := 0) hd ha (by omega) root1
  have w2f := write_fine (n := n) (k := 1) w1f.2.1 w1f.2.2 (by omega) []
  have sf := sync_fine w2f.2.1 w2f.2.2
  have b1 := wwrite_bd d n ((0 : Nat) : Int) root1 (by omega)
  have b2 := wwrite_bd (d.writeF n ((0 : Nat) : Int) root1).1 n ((1 : Nat) : Int) [] b1.2
  have KP := Lib.hid (fun w' (hb : Below w.heap.size w w') => pages_any (h.below hb))
  have KN := Lib.hid (fun w => Fm.new_yes (pagesF n) w hpn)
  have KR := Lib.hid (fun w => Rt.rput_yes (w := w) 1 0 none 0 0 [] ⟨rfl, fun k x hx => by simp [Rt.natI] at hx⟩ (Nat.le_refl _) right1)
  have HD := Lib.hid h
  have HLT := Lib.hid (fun g hg => h.lt g hg)
  have O1 := Lib.hid (belowAlloc (Below.refl w.heap.size w) (.cells #[dp L.b, .pointer none, .slice none 0 0, .slice none 0 0, .slice none 0 0, .int .i64 1, .int .i64 0, .bool false] 115))
  have B1 := Lib.hid (Blk.new w 115 #[dp L.b, .pointer none, .slice none 0 0, .slice none 0 0, .slice none 0 0, .int .i64 1, .int .i64 0, .bool false])
  have hpz : ((pagesF n : Nat) : Int) ≠ 0 := by omega
  have hpq : (((pagesF n : Nat) : Int) == 0) = false := by rw [beq_eq_false_iff_ne]; exact hpz
  have KP0 := KP.out w (Below.refl _ _)
  have e1 : (⟨root1.toArray⟩ : ByteArray).data.toList = root1 := by simp
  have e2 : (⟨#[]⟩ : ByteArray).data.toList = ([] : List UInt8) := by simp
  have c1 := wwrite_bd d n 0 root1 (by omega)
  have c2 := wwrite_bd (d.writeF n 0 root1).1 n 1 [] c1.2
  have v1 : (d.writeF n 0 root1).2 = 0 := w1f.1
  have v2 : ((d.writeF n 0 root1).1.writeF n 1 []).2 = 0 := w2f.1
  have v3 : ((d.writeF n 0 root1).1.writeF n 1 []).1.syncF.2 = 0 := sf.1
  have KW1 := Lib.hid (fun (W : World) (hW : DiskAt W L n d) => write_any hW 0 ⟨root1.toArray⟩ (by omega) (by omega))
  have KW2 := Lib.hid (fun (W : World) (hW : DiskAt W L n (d.writeF n 0 root1).1) => write_any hW 1 ⟨#[]⟩ (by omega) (by omega))
  have KS := Lib.hid (fun (W : World) (hW : DiskAt W L n ((d.writeF n 0 root1).1.writeF n 1 []).1) => sync_any hW (by omega) (by omega))
  rw [e1, v1] at KW1
  rw [e2, v2] at KW2
  rw [v3] at KS
  have HFD : formD d n = ((d.writeF n 0 root1).1.writeF n 1 []).1.syncF.1 := rfl
  have KR := Lib.hid (show ∀ w : World, Calls Tryz.prog 97 #[.agg #[.int .i64 1, .int .i64 0, .slice none 0 0]] w fun e w' => e = .returned (.tuple #[.string ⟨root1.toArray⟩, .int .i64 0]) ∧ Below w.heap.size w w' from KR.out)
  have hfc : formC d n = { d := formD d n, m := List.replicate (pagesF n) 0, table := [], old := [], parts := [], ep := 1, slot := 0, broken := false } := rfl
  rw [hfc]
  clear hfc
  generalize formD d n = dz at *
  generalize ((d.writeF n 0 root1).1.writeF n 1 []).1.syncF.1 = dy at *
  subst HFD
  generalize ((d.writeF n 0 root1).1.writeF n 1 []).1 = dx at *
  generalize (d.writeF n 0 root1).1 = dw at *
  generalize root1 = rt at *
  clear w1f w2f sf b1 b2 c1 c2 v1 v2 v3 e1 e2
  generalize pagesF n = pn at *
  unfold dp Fm.mp Rt.rootV at *
  have KP0 := Lib.hid KP0
  clear h hpz
  go_enter Tryz.func31, Tryz.ntmps31
  go_wp2_with fail
  refine KP0.out.mono ?_
  rintro e w1 ⟨rfl, rfl⟩
  go_wp2_with fail
  refine (KP.out _ O1.out).mono ?_
  rintro e w1 ⟨rfl, rfl⟩
  go_wp2_with fail
  refine (KN.out _).mono ?_
  rintro e w2 ⟨mb, mg, rfl, mm, hb2, h1, h2⟩
  have B2 := Lib.hid (B1.out.below hb2 B1.out.lt)
  have O2 := Lib.hid (bstep O1.out hb2)
  have O3 := Lib.hid (Below.setCell O2.out (p := ⟨w.heap.size, 1, none⟩) (Nat.le_refl _) (.pointer (some ⟨mb, 0, none⟩)))
  have n1 : w.heap.size ≠ mg := by have := h2; simp only [World.size_alloc] at this; omega
  have n2 : w.heap.size ≠ mb := by have := h1; simp only [World.size_alloc] at this; omega
  have g1 : w.heap.size ≤ mb := by have := h1; simp only [World.size_alloc] at this; omega
  have g2 : w.heap.size ≤ mg := by have := h2; simp only [World.size_alloc] at this; omega
  have M3 := Lib.hid (mm.only (S := [w.heap.size]) ((Only.refl _ w2).setCell (p := ⟨w.heap.size, 1, none⟩) (by simp) (.pointer (some ⟨mb, 0, none⟩))) (by simpa using n2.symm) (by simpa using n1.symm))
  have B3 := Lib.hid (B2.out.set_ 1 (.pointer (some ⟨mb, 0, none⟩)))
  have q0 := B2.out.cell_some (i := 1) rfl
  have q1 := B2.out.frozen 1 (by simp)
  clear hb2 h1 h2 mm
  go_wp2_with fail
  generalize w2.setCell ⟨w.heap.size, 1, none⟩ (.pointer (some ⟨mb, 0, none⟩)) = w3 at *
  clear q0 q1
  refine (KR.out _).mono ?_
  rintro e w4 ⟨rfl, hb4⟩
  have O4 := Lib.hid (bstep O3.out hb4)
  have M4 := Lib.hid (M3.out.below hb4)
  have B4 := Lib.hid (B3.out.below hb4 B3.out.lt)
  have U4 := Lib.hid (belowAlloc (Below.refl w4.heap.size w4) (.cells #[.string ⟨rt.toArray⟩, .string ⟨#[]⟩] 9))
  have T4 := Lib.hid (Blk.new w4 9 #[.string ⟨rt.toArray⟩, .string ⟨#[]⟩])
  have nT : w4.heap.size ∉ L.fp := fun hg => by have := HLT.out _ hg; have := O4.out.size; omega
  have nT := Lib.hid nT
  have H5 := Lib.hid (HD.out.below (bstep O4.out U4.out))
  have t0 := T4.out.cell_some (i := 0) rfl
  clear hb4
  go_wp2_with fail
  refine wp_loop_rounds 3 ?_
  rw [rounds_succ]
  go_wp2_with fail
  refine (KW1.out _ H5.out).mono ?_
  rintro e w6 ⟨rfl, H6, O6⟩
  have T6 := Lib.hid (T4.out.only O6 nT.out)
  have t1 := T6.out.cell_some (i := 1) rfl
  have H6 := Lib.hid H6
  have O6 := Lib.hid O6
  clear t0
  go_wp2_with fail
  rw [rounds_succ]
  go_wp2_with fail
  refine (KW2.out _ H6.out).mono ?_
  rintro e w7 ⟨rfl, H7, O7⟩
  have H7 := Lib.hid H7
  have O7 := Lib.hid O7
  clear t1
  go_wp2_with fail
  rw [rounds_succ]
  go_wp2_with fail
  refine (KS.out _ H7.out).mono ?_
  rintro e w8 ⟨rfl, H8, O8⟩
  have H8 := Lib.hid H8
  have O8 := Lib.hid O8
  go_wp2_with fail
  go_ret2
  have nb : ∀ g, w.heap.size ≤ g → g ∉ L.fp := fun g hg hm => by have := HLT.out _ hm; omega
  have O5 := bstep O4.out U4.out
  have A5 : Only L.fp w _ := Only.of_below O5
  have A8 := ((A5.trans O6.out).trans O7.out).trans O8.out
  have A58 := ((O6.out).trans O7.out).trans O8.out
  refine ⟨⟨w.heap.size, L, mb, mg, .slice none 0 0, .slice none 0 0, .slice none 0 0⟩, rfl, by first | rfl | simp [sp], ⟨?_, H8.out, ?_, Sl.nil _ _, Sl.nil _ _, Sl.nil _ _, by simp [ownS], by simp [ownS], by simp [ownS], by simp [ownS], by simp [ownS], by simp [ownS], by simp⟩, A8, ?_⟩
  · exact (((B4.out.below U4.out B4.out.lt).only A58 (nb _ (Nat.le_refl _))))
  · exact ((M4.out.below U4.out).only A58 (nb _ g1) (nb _ g2))
  · intro g hg
    simp only [X.fp, List.mem_cons, List.mem_append] at hg
    rcases hg with rfl | rfl | rfl | ((hg | hg) | hg) | hg
    · exact .inr (Nat.le_refl _)
    · exact .inr g1
    · exact .inr g2
    · exact .inl hg
    · simp [ownS] at hg
    · simp [ownS] at hg
    · simp [ownS] at hg
end Go.Proofs.YtbelcgjbhpjnpaaGreat.Sh
