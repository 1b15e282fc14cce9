/- nodes: the law's awake. -/
import Derived.Test.YticehnnbjbliaabNd17
import Derived.Test.YticehnnbjbliaabNd14
import Derived.Test.YticehnnbjbliaabNd15
namespace Go.Proofs.Yticehnnbjbliaab.Nd
open Go.RowKit Sl
attribute [local go_sem ↓] Go.wp_at_zero Go.wp_at_succ
theorem place_b {k : Nat} (h : PlaceAt l0 ⟨#[98]⟩ k) : k = 1 := by
  obtain ⟨h1, h2, h3⟩ := h
  have hk : k = 0 ∨ k = 1 ∨ k = 2 := by have : l0.length = 2 := rfl; omega
  rcases hk with rfl | rfl | rfl
  · exact absurd (h3 _ rfl) (by decide)
  · rfl
  · exact absurd (h2 _ (by omega) rfl) (by decide)
theorem place_d {k : Nat} (h : PlaceAt l0 ⟨#[100]⟩ k) : k = 2 := by
  obtain ⟨h1, h2, h3⟩ := h
  have hk : k = 0 ∨ k = 1 ∨ k = 2 := by have : l0.length = 2 := rfl; omega
  rcases hk with rfl | rfl | rfl
  · exact absurd (h3 _ rfl) (by decide)
  · exact absurd (h3 _ rfl) (by decide)
  · rfl
theorem has_b : ¬ HasAt l0 ⟨#[98]⟩ 1 := by
  rintro ⟨e, he, h⟩
  simp only [l0, List.getElem?_cons_succ, List.getElem?_cons_zero, Option.some.injEq] at he
  subst he
  exact absurd h (by decide)
theorem has_d : ¬ HasAt l0 ⟨#[100]⟩ 2 := by
  rintro ⟨e, he, h⟩
  simp [l0] at he
set_option maxRecDepth 100000 in
set_option maxHeartbeats 4000000 in
theorem awake18_any (w : World) :
    Calls Try.prog 9 #[] w fun e w' => e = .returned (.bool true) ∧ Below w.heap.size w w' := by
  have O0 := Lib.hid (belowAlloc (belowAlloc (Below.refl w.heap.size w) (.cells #[.string ⟨#[97]⟩, .string ⟨#[120]⟩, .int .i64 (-1), .string ⟨#[99]⟩, .string ⟨#[]⟩, .int .i64 7] 56)) (.cells #[.bool true, .slice (some ⟨w.heap.size, 0, none⟩) 2 2] 32))
  have S0 : Slc (w.alloc (.cells #[.string ⟨#[97]⟩, .string ⟨#[120]⟩, .int .i64 (-1), .string ⟨#[99]⟩, .string ⟨#[]⟩, .int .i64 7] 56)) 56 3 (.slice (some ⟨w.heap.size, 0, none⟩) 2 2) 2 (ents l0) := ⟨rfl, .inr ⟨w.heap.size, 2, [], rfl, Blk.new _ _ _, rfl, by unfold maxLen; omega⟩⟩
  have EN := Lib.hid (Slc.ents (S0.alloc (.cells #[.bool true, .slice (some ⟨w.heap.size, 0, none⟩) 2 2] 32))).2
  have B1 := Blk.new (w.alloc (.cells #[.string ⟨#[97]⟩, .string ⟨#[120]⟩, .int .i64 (-1), .string ⟨#[99]⟩, .string ⟨#[]⟩, .int .i64 7] 56)) 32 #[.bool true, .slice (some ⟨w.heap.size, 0, none⟩) 2 2]
  rw [asz] at B1
  have B1 := Lib.hid B1
  go_enter Try.func9, Try.ntmps9
  go_wp2_with fail
  generalize hW : ((w.alloc (.cells #[.string ⟨#[97]⟩, .string ⟨#[120]⟩, .int .i64 (-1), .string ⟨#[99]⟩, .string ⟨#[]⟩, .int .i64 7] 56)).alloc (.cells #[.bool true, .slice (some ⟨w.heap.size, 0, none⟩) 2 2] 32)) = W at *
  clear hW S0
  have KP := Lib.hid (put_yes (w := W) true (some ⟨w.heap.size, 0, none⟩) 2 2 l0 EN.out (by omega) may_l0)
  unfold nodeV at KP
  refine KP.out.mono ?_
  rintro e w1 ⟨hx, hb1⟩
  rcases hx with ⟨-, b, rfl, sT, rT⟩ | ⟨h0, -⟩
  · have O1 := Lib.hid (bstep O0.out hb1)
    have EN1 := Lib.hid (EN.out.below hb1)
    have B2 := Lib.hid (B1.out.below hb1 B1.out.lt)
    have hz : b.size = 232 := by have := sT.len; simpa using this
    have KG := Lib.hid (got_any b w1 (by omega))
    have HG := Lib.hid (And.intro ((checkF_ok _).2 sT) rT)
    clear KP hb1 sT rT hz
    go_wp2_with fail
    refine KG.out.mono ?_
    rintro e w2 hgt
    have hgt2 : ∃ A n c, e = .returned (.tuple #[nodeV true A n c, .int .i64 0]) ∧ Slc w2 56 3 (.slice A n c) n (ents l0) ∧ Below w1.heap.size w1 w2 := by
      rcases hgt with ⟨h0, -⟩ | ⟨-, hgt, hb⟩
      · exact absurd HG.out.1 h0
      · rw [HG.out.2] at hgt
        rcases hgt with ⟨hno, -⟩ | ⟨-, A, n, c, rfl, S, -⟩
        · exact absurd (readOk_recs may_l0) hno
        · rw [leafR_recs, readE_recs may_l0] at *
          exact ⟨A, n, c, rfl, S, hb⟩
    obtain ⟨A, n, c, rfl, S, hb2⟩ := hgt2
    have O2 := Lib.hid (bstep O1.out hb2)
    have EN2 := Lib.hid (EN1.out.below hb2)
    have B3 := Lib.hid (B2.out.below hb2 B2.out.lt)
    obtain ⟨hnn, EM⟩ := Slc.ents S
    have hlen := EM.1
    obtain rfl : n = 2 := by rw [← hlen]; rfl
    have a3 := belowAlloc (Below.refl w2.heap.size w2) (.cells #[.bool true, .slice A 2 c] 32)
    have EM3 := Lib.hid (EM.below a3)
    have EN3 := Lib.hid (EN2.out.below a3)
    have B4 := Lib.hid (B3.out.below a3 B3.out.lt)
    have BM := Lib.hid (Blk.new w2 32 #[.bool true, .slice A 2 c])
    have O3 := Lib.hid (bstep O2.out a3)
    have c0 : w2.cell? ⟨w.heap.size + 1, 0, none⟩ = some (.bool true) := B3.out.cell_some (i := 0) rfl
    have c1 : w2.cell? ⟨w.heap.size + 1, 1, none⟩ = some (.slice (some ⟨w.heap.size, 0, none⟩) 2 2) := B3.out.cell_some (i := 1) rfl
    have hlt := B3.out.lt
    clear hgt S hb2 hnn EM hlen a3 KG
    unfold nodeV
    go_wp2_with fail
    generalize hW3 : (w2.alloc (.cells #[.bool true, .slice A 2 c] 32)) = w3 at *
    clear hW3 c0 c1
    have KF := Lib.hid (find_any (w := w3) true (some ⟨w.heap.size, 0, none⟩) 2 2 l0 ⟨#[98]⟩ EN3.out (by omega))
    unfold nodeV at KF
    refine KF.out.mono ?_
    rintro e w4 ⟨⟨k, q, rfl, hp, hh⟩, hb4⟩
    obtain rfl := place_b hp
    obtain rfl : q = false := by
      cases q
      · rfl
      · exact absurd (hh.1 rfl) has_b
    have O4 := Lib.hid (bstep O3.out hb4)
    have EN4 := Lib.hid (EN3.out.below hb4)
    have EM4 := Lib.hid (EM3.out.below hb4)
    have B5 := Lib.hid (B4.out.below hb4 B4.out.lt)
    have BM4 := Lib.hid (BM.out.below hb4 BM.out.lt)
    have c0 : w4.cell? ⟨w.heap.size + 1, 0, none⟩ = some (.bool true) := B5.out.cell_some (i := 0) rfl
    have c1 : w4.cell? ⟨w.heap.size + 1, 1, none⟩ = some (.slice (some ⟨w.heap.size, 0, none⟩) 2 2) := B5.out.cell_some (i := 1) rfl
    have d0 : w4.cell? ⟨w2.heap.size, 0, none⟩ = some (.bool true) := BM4.out.cell_some (i := 0) rfl
    have d1 : w4.cell? ⟨w2.heap.size, 1, none⟩ = some (.slice A 2 c) := BM4.out.cell_some (i := 1) rfl
    have KS := Lib.hid (same18_any (w := w4) true true A (some ⟨w.heap.size, 0, none⟩) 2 c 2 2 l0 l0 EM4.out EN4.out (by omega) (by omega) true (by simp))
    unfold nodeV at KS
    clear hp hh hb4 KF
    go_wp2_with fail
    refine KS.out.mono ?_
    rintro e w5 ⟨rfl, hb5⟩
    have O5 := Lib.hid (bstep O4.out hb5)
    have EN5 := Lib.hid (EN4.out.below hb5)
    have B6 := Lib.hid (B5.out.below hb5 B5.out.lt)
    have g0 : w5.cell? ⟨w.heap.size + 1, 0, none⟩ = some (.bool true) := B6.out.cell_some (i := 0) rfl
    have g1 : w5.cell? ⟨w.heap.size + 1, 1, none⟩ = some (.slice (some ⟨w.heap.size, 0, none⟩) 2 2) := B6.out.cell_some (i := 1) rfl
    have KB := Lib.hid (below_any (w := w5) true (some ⟨w.heap.size, 0, none⟩) 2 2 l0 ⟨#[98]⟩ EN5.out (by omega))
    unfold nodeV at KB
    clear hb5 c0 c1 d0 d1 KS
    go_wp2_with fail
    refine KB.out.mono ?_
    rintro e w6 ⟨⟨m, rfl, k, hp, hm⟩, hb6⟩
    obtain rfl := place_b hp
    obtain rfl : m = 0 := by
      rcases hm with ⟨h, -⟩ | ⟨-, h⟩
      · exact absurd h has_b
      · exact h
    have O6 := Lib.hid (bstep O5.out hb6)
    have EN6 := Lib.hid (EN5.out.below hb6)
    have B7 := Lib.hid (B6.out.below hb6 B6.out.lt)
    have p0 : w6.cell? ⟨w.heap.size + 1, 0, none⟩ = some (.bool true) := B7.out.cell_some (i := 0) rfl
    have p1 : w6.cell? ⟨w.heap.size + 1, 1, none⟩ = some (.slice (some ⟨w.heap.size, 0, none⟩) 2 2) := B7.out.cell_some (i := 1) rfl
    have KD := Lib.hid (below_any (w := w6) true (some ⟨w.heap.size, 0, none⟩) 2 2 l0 ⟨#[100]⟩ EN6.out (by omega))
    unfold nodeV at KD
    clear hp hm hb6 g0 g1 KB
    go_wp2_with fail
    refine KD.out.mono ?_
    rintro e w7 ⟨⟨m, rfl, k, hp, hm⟩, hb7⟩
    obtain rfl := place_d hp
    obtain rfl : m = 1 := by
      rcases hm with ⟨h, -⟩ | ⟨-, h⟩
      · exact absurd h has_d
      · exact h
    have O7 := Lib.hid (bstep O6.out hb7)
    clear hp hm hb7 p0 p1 KD
    go_wp2_with fail
    go_ret
    exact ⟨by first | rfl | simp, O7.out⟩
  · exact absurd room_l0 (by omega)
end Go.Proofs.Yticehnnbjbliaab.Nd
