/- disk by its contracts: Crash, Of. -/
import Derived.Test.YtmofbgcanehdoaaDisk6
namespace Go.Proofs.Ytmofbgcanehdoaa.Dk
open Go.RowKit
attribute [local go_sem ↓] exec_ld exec_st exec_zero

theorem slice_sector (w : World) (g o k : Nat) (hk : k < 64) :
    (Instr.sliceAt 80 (.pointer (some ⟨g, o, none⟩)) (some (.int .i64 k)) none none).run Try.prog w = .ok (.slice (some ⟨g, o + k, none⟩) (64 - k) (64 - k)) w := by
  obtain ⟨i, hi, hs⟩ : ∃ i, Try.prog.info? 5 = some i ∧ i.size = 1 := by
    have := size_u8
    cases hq : Try.prog.info? 5 with
    | none => rw [hq] at this; cases this
    | some i => rw [hq] at this; exact ⟨i, rfl, by simpa using this⟩
  have hb := fun w => run_sliceBound (P := Try.prog) (w := w) .i64 (k : Int) 64 .sliceB (by omega) (by omega)
  have h64 : ¬ 64 = k := by omega
  have ea : (⟨g, o, none⟩ : Addr).add k = ⟨g, o + k, none⟩ := by unfold Addr.add; split <;> simp_all
  simp [Instr.sliceAt, run_underlying bytes_under, Instr.sliceBounds, Instr.sureAddr, sizeOf, typeInfo, hi, hs, hb, h64, ea, Result.andThen]
theorem crash_nil (C : Cr) (w : World) :
    Calls Try.prog 26 #[.pointer none, C.val] w fun e w' => e = .returned (.int .i64 1) ∧ Below w.heap.size w w' := by
  unfold Cr.val
  go_enter Try.func26, Try.ntmps26
  go_wp2
  go_ret
  exact ⟨rfl, (Below.refl _ _).alloc (Nat.le_refl _) _⟩

set_option maxRecDepth 100000 in
set_option maxHeartbeats 4000000 in
theorem crash_any {w : World} {L : Loc} {n : Nat} {d : D} (h : DiskAt w L n d) (C : Cr) (hC : C.At w) (hm : C.m ≤ 9223372036854775807) (hap : ∀ ad, C.A = some ad → 0 < C.m → ad.block ∉ L.fp) :
    Calls Try.prog 26 #[dp L.b, C.val] w fun e w' => e = .returned (.int .i64 0) ∧ DiskAt w' L n (d.crashF C n) ∧ Only L.fp w w' := by
  have hn := h.ok.small
  have O0 := Lib.hid ((Below.refl w.heap.size w).alloc (Nat.le_refl _) (.cells #[.slice C.A C.m C.c, .int .i64 C.torn, .int .i64 C.bytes] 48))
  have B0 := Lib.hid (Blk.new w 48 #[.slice C.A C.m C.c, .int .i64 C.torn, .int .i64 C.bytes])
  have D0 := Lib.hid (h.below O0.out)
  have C0 := Lib.hid (hC.below O0.out)
  have hlt := Lib.hid h.lt
  have HOK := Lib.hid (h.ok.crashTo C)
  have HCR := Lib.hid (h.ok.crash C)
  have f2 := D0.out.f2
  have HAP := Lib.hid hap
  clear h hC hap
  unfold dp Cr.val
  go_enter Try.func26, Try.ntmps26
  go_wp2_with fail
  generalize w.alloc (.cells #[.slice C.A C.m C.c, .int .i64 C.torn, .int .i64 C.bytes] 48) = W at *
  generalize hx : w.heap.size = x at *
  have hx' := Lib.hid hx
  clear hx f2
  go_loopw [6, 7, 8, 9, 18] (fun jv _ _ _ iv wr => ∃ i : Nat, i ≤ n ∧ iv = .int .i64 i ∧ jv = .int .i64 (D.crashTo C d i).2 ∧ DiskAt wr L n (D.crashTo C d i).1 ∧ Blk wr x 48 #[.slice C.A C.m C.c, .int .i64 C.torn, .int .i64 C.bytes] ∧ C.At wr ∧ Only L.fp W wr) (fun _ _ _ _ iv _ => n - (intOf iv).toNat)
  case atStart => exact ⟨0, by omega, rfl, rfl, D0.out, B0.out, C0.out, Only.refl _ _⟩
  case round =>
    obtain ⟨i, hi, rfl, rfl, hD, hB, hCw, hO⟩ := hrel
    by_cases h : i < n
    · have f0 := hD.f0
      have f1 := hD.f1
      have f2 := hD.f2
      have hjl := (HOK.out i (by omega)).2
      have hxN : x ≠ L.gN := by have := hlt.out L.gN (by simp [Loc.fp]); have := hx'.out; omega
      have hxL : x ≠ L.gL := by have := hlt.out L.gL (by simp [Loc.fp]); have := hx'.out; omega
      have cl : wr.cell? ⟨L.gL, i, none⟩ = some (.bool ((D.crashTo C d i).1.loose.getD i false)) := hD.hL.cell_some (by rw [List.getElem?_toArray, bools_get _ _ (by rw [hD.ok.loose]; exact h)])
      have HS := Lib.hid (show D.crashTo C d (i + 1) = if (D.crashTo C d i).1.loose.getD i false then ((D.crashTo C d i).1.crashOne C (D.crashTo C d i).2 i, (D.crashTo C d i).2 + 1) else D.crashTo C d i from rfl)
      generalize D.crashTo C d i = T at *
      obtain ⟨d1, j⟩ := T
      simp only at hD hjl cl HS
      cases hl : d1.loose.getD i false
      · rw [hl] at cl
        have HS := Lib.hid (show D.crashTo C d (i + 1) = (d1, j) by rw [HS.out, hl]; rfl)
        have HD := Lib.hid hD
        clear hl f0 f1 hD
        go_wp2_with fail
        go_roundw
        case rel => exact ⟨i + 1, by omega, by go_num, by rw [HS.out], by rw [HS.out]; exact HD.out, hB, hCw, hO⟩
        case measure => simp [intOf]; omega
      · rw [hl] at cl
        have HS := Lib.hid (show D.crashTo C d (i + 1) = (d1.crashOne C j i, j + 1) by rw [HS.out, hl]; rfl)
        have KL := Lib.hid (left_any C hCw hm hB j (by omega))
        have hle := C.left_le j
        clear hl
        have HK64 := Lib.hid (Nat.lt_or_ge (C.leftF j) 64)
        rcases HK64.out with hlt64 | hge64
        · obtain ⟨k, hk⟩ : ∃ k, C.leftF j = k := ⟨_, rfl⟩
          rw [hk] at KL hle hlt64
          have hsl := fun (g o : Nat) (w' : World) => slice_sector w' g o k (by omega)
          obtain ⟨w2, ec, D2, o2⟩ := torn_copy hD.drew C j i h (i * 64 + k) (i * 64 + k) (.inl ⟨by omega, by omega, by omega⟩) (64 - k) (by omega)
          have cl2 : w2.cell? ⟨L.gL, i, none⟩ = some (.bool true) := (o2.cell (cell_lt' cl) (by simp; exact hD.LN)).trans cl
          have fl2 : w2.frozen? ⟨L.gL, i, none⟩ = false := (o2.frozen (cell_lt' cl) (by simp; exact hD.LN)).trans (hD.hL.frozen i (by simp; rw [hD.ok.loose]; exact h))
          have f22 : w2.cell? ⟨L.b, 2, none⟩ = some (.slice (some ⟨L.gL, 0, none⟩) n n) := D2.f2
          have D3 := Lib.hid (D2.loose_set i false)
          have B2 := Lib.hid ((hB.drew.only o2 (by simp; exact hxN)).far (p := ⟨L.gL, i, none⟩) (by exact hxL) (.bool false))
          have o3 : Only L.fp wr (w2.setCell ⟨L.gL, i, none⟩ (.bool false)) := (⟨o2.os, o2.tape, o2.output, o2.size, fun b hb hn => o2.block b hb (by simp [Loc.fp] at hn ⊢; exact hn.2.1)⟩ : Only L.fp wr w2).setCell (by simp [Loc.fp]) _
          have C3 := Lib.hid (hCw.only o3 HAP.out)
          have O3 := Lib.hid (hO.trans o3)
          have HD := Lib.hid hD
          clear D2 o2 o3 hB hCw hO hD HK64
          clear hk
          go_wp2_with fail
          refine KL.out.mono ?_
          rintro e w1 ⟨rfl, rfl⟩
          go_wp2_with fail
          go_region
          all_goals go_wp2_with fail
          all_goals go_roundw
          case rel => exact ⟨i + 1, by omega, by go_num, by rw [HS.out]; go_num, by rw [HS.out]; exact D3.out, B2.out, C3.out, O3.out⟩
          case measure => simp [intOf]; omega
        · have hk64 : C.leftF j = 64 := by omega
          have HKV := Lib.hid hk64
          rw [hk64] at KL
          obtain ⟨w2, ec, D2, o2⟩ := torn_copy hD.drew C j i h (i * 64) (i * 64) (.inr ⟨hk64, rfl, rfl⟩) 0 (by omega)
          have cl2 : w2.cell? ⟨L.gL, i, none⟩ = some (.bool true) := (o2.cell (cell_lt' cl) (by simp; exact hD.LN)).trans cl
          have fl2 : w2.frozen? ⟨L.gL, i, none⟩ = false := (o2.frozen (cell_lt' cl) (by simp; exact hD.LN)).trans (hD.hL.frozen i (by simp; rw [hD.ok.loose]; exact h))
          have f22 : w2.cell? ⟨L.b, 2, none⟩ = some (.slice (some ⟨L.gL, 0, none⟩) n n) := D2.f2
          have D3 := Lib.hid (D2.loose_set i false)
          have B2 := Lib.hid ((hB.drew.only o2 (by simp; exact hxN)).far (p := ⟨L.gL, i, none⟩) (by exact hxL) (.bool false))
          have o3 : Only L.fp wr (w2.setCell ⟨L.gL, i, none⟩ (.bool false)) := (⟨o2.os, o2.tape, o2.output, o2.size, fun b hb hn => o2.block b hb (by simp [Loc.fp] at hn ⊢; exact hn.2.1)⟩ : Only L.fp wr w2).setCell (by simp [Loc.fp]) _
          have C3 := Lib.hid (hCw.only o3 HAP.out)
          have O3 := Lib.hid (hO.trans o3)
          have HD := Lib.hid hD
          clear D2 o2 o3 hB hCw hO hD HK64
          clear hk64 hle hge64 HKV
          go_wp2_with fail
          refine KL.out.mono ?_
          rintro e w1 ⟨rfl, rfl⟩
          go_wp2_with fail
          go_region
          all_goals go_wp2_with fail
          all_goals go_roundw
          case rel => exact ⟨i + 1, by omega, by go_num, by rw [HS.out]; go_num, by rw [HS.out]; exact D3.out, B2.out, C3.out, O3.out⟩
          case measure => simp [intOf]; omega
    · have hin : i = n := by omega
      subst hin
      have f3 := hD.f3
      have f5 := hD.f5
      have z3 := hD.fz 3 (by omega)
      have z5 := hD.fz 5 (by omega)
      have HD := Lib.hid hD
      go_wp2_with fail
      go_ret
      have o1 : Only [L.b] wr ((wr.setCell ⟨L.b, 5, none⟩ (.bool false)).setCell ⟨L.b, 3, none⟩ (.int .i64 0)) := ((Only.refl _ _).setCell (by simp) _).setCell (by simp) _
      exact ⟨rfl, HD.out.head (d' := d.crashF C i) ((HD.out.hb.set_ 5 (.bool false)).set_ 3 (.int .i64 0)) o1 rfl rfl rfl HCR.out, ((Only.of_below (by rw [hx'.out]; exact O0.out)).trans hO).trans (o1.mono (by simp [Loc.fp]))⟩
end Go.Proofs.Ytmofbgcanehdoaa.Dk
