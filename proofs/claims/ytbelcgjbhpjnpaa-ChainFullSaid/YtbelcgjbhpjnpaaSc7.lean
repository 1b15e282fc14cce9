/- chain's laws: begun. -/
import Derived.Test.YtbelcgjbhpjnpaaSc6
namespace Go.Proofs.Ytbelcgjbhpjnpaa.Sh
open Go.RowKit Pk Dk Pg
attribute [local go_sem ↓] Go.wp_at_zero Go.wp_at_succ
theorem wsync_bd (d : D) (h : d.armed ≤ 9223372036854775807) : d.syncF.1.calls ≤ d.calls + 1 ∧ d.syncF.1.armed ≤ 9223372036854775807 := by
  have := wcount_bd d h
  unfold D.syncF
  split
  · exact ⟨by show d.calls ≤ _; omega, h⟩
  · split
    · exact ⟨by show d.countF.1.calls ≤ _; omega, this.2⟩
    · exact ⟨by omega, this.2⟩
theorem good_start (n : Nat) (h1 : 1 ≤ pagesF n) (hn : n ≤ 4096) (hok : (formC (D.zero n) n).d.Ok n) : Good (formC (D.zero n) n) n ∧ (formC (D.zero n) n).absF n = { many := pagesF n, now := [], old := [], ep := 1 } ∧ (formC (D.zero n) n).d.calls ≤ 10 := by
  have hk : 2 ≤ n := by unfold pagesF manyF at h1; omega
  have z : (D.zero n).down = false ∧ (D.zero n).armed = 0 ∧ (D.zero n).calls = 0 := ⟨rfl, rfl, rfl⟩
  obtain ⟨w1, w2, w3⟩ := write_fine (d := D.zero n) (n := n) (k := 0) z.1 z.2.1 (by omega) root1
  obtain ⟨v1, v2, v3⟩ := write_fine (d := ((D.zero n).writeF n (0 : Nat) root1).1) (n := n) (k := 1) w2 w3 (by omega) []
  obtain ⟨s1, s2, s3, _⟩ := sync_fine v2 v3
  have c1 := wwrite_bd (D.zero n) n 0 root1 (by show (0 : Int) ≤ _; omega)
  have c2 := wwrite_bd ((D.zero n).writeF n 0 root1).1 n 1 [] c1.2
  have hc : (formC (D.zero n) n).d.calls ≤ 10 := by
    show (((D.zero n).writeF n 0 root1).1.writeF n 1 []).1.syncF.1.calls ≤ 10
    have c3 := (wsync_bd ((((D.zero n).writeF n 0 root1).1.writeF n 1 []).1) c2.2).1
    have := c1.1
    have := c2.1
    omega
  refine ⟨⟨s2, s3, rfl, hok, by simp [formC], by simp [formC], .inl rfl, by simp [formC], by simp [formC], by simp [formC], by simp [formC, Inj], by simp [formC, Inj], by simp [formC, Inj], by simp [formC], by simp [formC, needT], by simp [formC], ?_, by simp [formC], by simp [formC]⟩, ?_, hc⟩
  · intro i hi
    simp [formC] at hi
    unfold kindOf formC
    simp [List.getD, hi]
  · unfold C.absF formC
    simp
def St.start (pages : Nat) : St := { many := pages, now := [], old := [], ep := 1 }
set_option maxRecDepth 100000 in
set_option maxHeartbeats 2000000 in
theorem begun_any (w : World) (fr pg : Nat) (f1 : 1 ≤ fr) (f2 : fr ≤ 32) (p1 : 1 ≤ pg) (p2 : pg ≤ 1000) :
    Calls Try.prog 7 #[.int .i64 (fr : Nat), .int .i64 (pg : Nat)] w fun e w' => ∃ pb sb rb F, e = .returned (.tuple #[pp pb, .pointer (some ⟨rb, 0, none⟩)]) ∧ AtQ w' pb sb F (St.start pg) 10 ∧ Below w.heap.size w w' ∧ ∀ g ∈ F, w.heap.size ≤ g := by
  have n1 : pagesF (2 + 4 * pg) = pg := by unfold pagesF manyF; omega
  have e1 : IntKind.i64.wrap (4 * (pg : Int)) = 4 * (pg : Int) := IntWalk.i64_in _ (by omega)
  have e2 : IntKind.i64.wrap (2 + 4 * (pg : Int)) = ((2 + 4 * pg : Nat) : Int) := by rw [show 2 + 4 * (pg : Int) = ((2 + 4 * pg : Nat) : Int) by omega]; exact IntWalk.i64_in _ (by omega)
  have KD := Lib.hid (new_yes (2 + 4 * pg) w (by omega) (by omega))
  have KF := Lib.hid (fun (W : World) (L : Dk.Loc) (hW : DiskAt W L (2 + 4 * pg) (D.zero (2 + 4 * pg))) => format_any hW (by omega) rfl rfl (by show (0 : Int) ≤ 1000; omega))
  have KP := Lib.hid (fun (W : World) (b : Nat) => pnew_any (w := W) b fr f1 f2)
  have KR := Lib.hid (fun (W : World) (b : Nat) => rnew15_any (w := W) b fr f2)
  have HQ := Lib.hid (show ∀ (W : World) (x : X) (pb : Nat) (v : Value), At W x (2 + 4 * pg) (formC (D.zero (2 + 4 * pg)) (2 + 4 * pg)) → Blk W pb 68 #[sp x.b, v, .int .i64 0] → Slc W 86 5 v fr (frc (List.replicate fr Fr.nil)) → (∀ g ∈ x.fp, w.heap.size ≤ g) → w.heap.size ≤ pb → (∀ g ∈ ownB v, w.heap.size ≤ g) → pb ∉ x.fp → (∀ g ∈ ownB v, g ∉ x.fp) →
      ∃ F, AtQ W pb x.b F (St.start pg) 10 ∧ ∀ g ∈ F, w.heap.size ≤ g from fun W x pb v A B S h1 h2 h3 h4 h5 => by
    obtain ⟨G, e, hc⟩ := good_start (2 + 4 * pg) (by omega) (by omega) A.hd.ok
    rw [n1] at e
    obtain ⟨g, cp, rest, rfl, BB, _⟩ := S.form (by omega) (by omega)
    refine ⟨_, ⟨⟨x, pb, g, cp⟩, 2 + 4 * pg, ⟨formC (D.zero (2 + 4 * pg)) (2 + 4 * pg), List.replicate fr Fr.nil, 0⟩, rfl, rfl, rfl, ⟨?_, ?_, A, h4, h5 g (by simp [ownB]), by simp; omega, by simp; omega, by simp; omega⟩, ⟨G, ?_⟩, e, hc⟩, ?_⟩
    · rw [List.length_replicate]; exact B
    · rw [List.length_replicate]; exact S
    · refine ⟨fun f hf => ?_, fun i j f h hi hj hp h0 => ?_⟩
      · rw [(List.mem_replicate.1 hf).2]
        exact ⟨rfl, rfl, .inl (by show (-1 : Int) < 0; omega)⟩
      · have := (List.mem_replicate.1 (List.mem_of_getElem? hi)).2
        rw [this] at h0
        exact absurd h0 (by show ¬ (0 : Int) ≤ -1; omega)
    · intro y hy
      simp only [Y.fp, List.mem_cons] at hy
      rcases hy with rfl | rfl | hy
      · exact h2
      · exact h3 _ (by simp [ownB])
      · exact h1 y hy)
  clear f1 f2 p1
  unfold dp pp sp at *
  go_enter Try.func7, Try.ntmps7
  go_wp2_with fail
  refine KD.out.mono ?_
  rintro e w1 ⟨L, rfl, D1, hb1, hL⟩
  have O1 := Lib.hid hb1
  have D1 := Lib.hid D1
  have HL := Lib.hid hL
  clear hb1 hL
  go_wp2_with fail
  refine (KF.out w1 L D1.out).mono ?_
  rintro e w2 ⟨x, hxL, rfl, A2, o2, fx⟩
  have H2 := Lib.hid (show At w2 x (2 + 4 * pg) (formC (D.zero (2 + 4 * pg)) (2 + 4 * pg)) ∧ Below w.heap.size w w2 ∧ ∀ g ∈ x.fp, w.heap.size ≤ g from ⟨A2, O1.out.trans (o2.below_of O1.out.size HL.out), fun g hg => (fx g hg).elim (HL.out g) (fun h => by have := O1.out.size; omega)⟩)
  clear A2 o2 fx
  go_wp2_with fail
  refine (KP.out w2 x.b).mono ?_
  rintro e w3 ⟨pb, v, rfl, B3, S3, hb3, hp3, hf3⟩
  have H3 := Lib.hid (show At w3 x (2 + 4 * pg) (formC (D.zero (2 + 4 * pg)) (2 + 4 * pg)) ∧ Below w.heap.size w w3 ∧ Blk w3 pb 68 #[.pointer (some ⟨x.b, 0, none⟩), v, .int .i64 0] ∧ Slc w3 86 5 v fr (frc (List.replicate fr Fr.nil)) ∧ pb ∉ x.fp ∧ (∀ g ∈ ownB v, g ∉ x.fp) ∧ w.heap.size ≤ pb ∧ ∀ g ∈ ownB v, w.heap.size ≤ g from
    ⟨H2.out.1.below hb3, bstep H2.out.2.1 hb3, B3, S3, fun hF => by have := H2.out.1.lt _ hF; omega, fun g hg hF => by have := H2.out.1.lt _ hF; have := hf3 g hg; omega, by have := H2.out.2.1.size; omega, fun g hg => by have := hf3 g hg; have := H2.out.2.1.size; omega⟩)
  clear B3 S3 hb3 hp3 hf3
  go_wp2_with fail
  refine (KR.out _ _).mono ?_
  rintro e w4 ⟨rb, rv, rfl, _, _, hb4, _, _⟩
  have H4 := Lib.hid (bstep (belowAlloc (Below.refl w3.heap.size w3) _) hb4)
  clear hb4
  go_wp2_with fail
  go_ret2
  obtain ⟨a1, a2, a3, a4, a5, a6, a7, a8⟩ := H3.out
  obtain ⟨F, AQ, hF⟩ := HQ.out w3 x pb v a1 a3 a4 H2.out.2.2 a7 a8 a5 a6
  exact ⟨pb, x.b, rb, F, by first | rfl | simp, AQ.below H4.out, bstep a2 H4.out, hF⟩
end Go.Proofs.Ytbelcgjbhpjnpaa.Sh
