/- the document's disk: Crash. -/
import Derived.Test.YtclompapmbhijaaDiskX2
namespace Go.Proofs.Ytclompapmbhijaa.Dk
open Go.RowKit

def cutB (k : Nat) (a b : ByteArray) : ByteArray := a.extract 0 k ++ b.extract k 64
def X.crashTo (C : Cr) (x : X) : Nat → X × Nat
  | 0 => (x, 0)
  | i + 1 => if (x.crashTo C i).1.is.getD i false then ((x.crashTo C i).1.syncOne i (cutB (C.leftF (x.crashTo C i).2) ((x.crashTo C i).1.new.getD i .empty) ((x.crashTo C i).1.safe.getD i .empty)), (x.crashTo C i).2 + 1) else x.crashTo C i
def X.crashF (C : Cr) (x : X) (n : Nat) : X := { (x.crashTo C n).1 with down := false, arm := 0 }
theorem cutB_size (k : Nat) (a b : ByteArray) (hk : k ≤ 64) (ha : a.size = 64) (hb : b.size = 64) : (cutB k a b).size = 64 := by
  unfold cutB; simp [ha, hb]; omega
theorem cutB_zero (a b : ByteArray) : cutB 0 a b = b.extract 0 64 := by simp [cutB]
theorem cutB_all (a b : ByteArray) : cutB 64 a b = a.extract 0 64 := by simp [cutB]
theorem X.Ok.safe64 {x : X} {n : Nat} (h : x.Ok n) (i : Nat) (hi : i < n) : (x.safe.getD i .empty).size = 64 := by
  apply h.fits
  have : i < x.safe.length := by rw [h.safe]; exact hi
  simp only [List.getD, List.getElem?_eq_getElem this, Option.getD_some]
  exact List.getElem_mem this
theorem crashTo_le (C : Cr) (x : X) : ∀ i, (x.crashTo C i).2 ≤ i
  | 0 => Nat.le_refl 0
  | i + 1 => by
    have := crashTo_le C x i
    rw [X.crashTo]
    split
    · show _ + 1 ≤ _; omega
    · omega
set_option maxRecDepth 100000 in
set_option maxHeartbeats 8000000 in
theorem xcrash_any {w : World} {M : XL} {n : Nat} {x : X} (h : XAt w M n x) (C : Cr) (hC : C.At w) (hm : C.m ≤ 9223372036854775807) (hap : ∀ ad, C.A = some ad → 0 < C.m → ad.block ∉ M.fp) :
    Calls Try.prog 35 #[xp M.b, C.val] w fun e w' => e = .returned (.tuple #[]) ∧ XAt w' M n (x.crashF C n) ∧ Only M.fp w w' := by
  have hn := h.ok.small
  have O0 := Lib.hid ((Below.refl w.heap.size w).alloc (Nat.le_refl _) (.cells #[.slice C.A C.m C.c, .int .i64 C.torn, .int .i64 C.bytes] 25))
  have B0 := Lib.hid (Blk.new w 25 #[.slice C.A C.m C.c, .int .i64 C.torn, .int .i64 C.bytes])
  have D0 := Lib.hid (h.below O0.out)
  have C0 := Lib.hid (hC.below O0.out)
  have hlt := Lib.hid h.lt
  have HAP := Lib.hid hap
  clear h hC hap
  unfold xp Cr.val
  go_enter Try.func35, Try.ntmps35
  go_wp2_with fail
  generalize w.alloc (.cells #[.slice C.A C.m C.c, .int .i64 C.torn, .int .i64 C.bytes] 25) = W at *
  generalize hx : w.heap.size = q at *
  have hx' := Lib.hid hx
  clear hx
  go_loopw [4, 5] (fun jv iv wr => ∃ i : Nat, i ≤ n ∧ iv = .int .i64 i ∧ jv = .int .i64 (x.crashTo C i).2 ∧ XAt wr M n (x.crashTo C i).1 ∧ Blk wr q 25 #[.slice C.A C.m C.c, .int .i64 C.torn, .int .i64 C.bytes] ∧ C.At wr ∧ Only M.fp W wr) (fun _ iv _ => n - (intOf iv).toNat)
  case atStart => exact ⟨0, by omega, rfl, rfl, D0.out, B0.out, C0.out, Only.refl _ _⟩
  case round =>
    obtain ⟨i, hi, rfl, rfl, hD, hB, hCw, hO⟩ := hrel
    have f0 := hD.f0
    have f1 := hD.f1
    have f2 := hD.f2
    by_cases h : i < n
    · have hjl := crashTo_le C x i
      have cI := hD.cI i h
      have HS := Lib.hid (show x.crashTo C (i + 1) = if (x.crashTo C i).1.is.getD i false then ((x.crashTo C i).1.syncOne i (cutB (C.leftF (x.crashTo C i).2) ((x.crashTo C i).1.new.getD i .empty) ((x.crashTo C i).1.safe.getD i .empty)), (x.crashTo C i).2 + 1) else x.crashTo C i from rfl)
      generalize x.crashTo C i = T at *
      obtain ⟨z, j⟩ := T
      simp only at hD hjl cI HS
      cases hl : z.is.getD i false
      · rw [hl] at cI
        have HS := Lib.hid (show x.crashTo C (i + 1) = (z, j) by rw [HS.out, hl]; rfl)
        have HD := Lib.hid hD
        clear hl hD
        go_wp2_with fail
        go_roundw
        case rel => exact ⟨i + 1, by omega, by go_num, by rw [HS.out], by rw [HS.out]; exact HD.out, hB, hCw, hO⟩
        case measure => simp [intOf]; omega
      · rw [hl] at cI
        have HS := Lib.hid (show x.crashTo C (i + 1) = (z.syncOne i (cutB (C.leftF j) (z.new.getD i .empty) (z.safe.getD i .empty)), j + 1) by rw [HS.out, hl]; rfl)
        have hleft := C.left_le j
        have ha := hD.ok.fitn i hl
        have hb := hD.ok.safe64 i h
        have cS := hD.cS i h
        have cW := hD.cW i h
        have zS := hD.zS i h
        have zI := hD.zI i h
        have hbS := hD.bS
        have hIS := hD.IS
        have H3 := Lib.hid (hD.drew.syncOne i h (cutB (C.leftF j) (z.new.getD i .empty) (z.safe.getD i .empty)) (cutB_size _ _ _ hleft ha hb))
        have c0 : wr.cell? ⟨q, 0, none⟩ = some (.slice C.A C.m C.c) := hB.cell_some rfl
        have c1 : wr.cell? ⟨q, 1, none⟩ = some (.int .i64 C.torn) := hB.cell_some rfl
        have c2 : wr.cell? ⟨q, 2, none⟩ = some (.int .i64 C.bytes) := hB.cell_some rfl
        clear hl
        generalize z.new.getD i .empty = a at *
        generalize z.safe.getD i .empty = b at *
        have hkp := hCw j
        have hside : ∃ k : Nat, C.leftF j = k ∧ k ≤ 64 ∧ ((((j : Int) == C.torn) = true ∧ 0 < C.bytes ∧ C.bytes % 65 = (k : Int)) ∨ (((j : Int) == C.torn) = true ∧ ¬ 0 < C.bytes ∧ k = 0) ∨ (((j : Int) == C.torn) = false ∧ k = if j < C.m ∧ C.kp j = true then 64 else 0)) := by
          refine ⟨_, rfl, hleft, ?_⟩
          unfold Cr.leftF
          by_cases h1 : (j : Int) = C.torn
          · by_cases h2 : 0 < C.bytes
            · left; rw [if_pos h1, if_pos h2]; exact ⟨by simpa using h1, h2, by omega⟩
            · right; left; rw [if_pos h1, if_neg h2]; exact ⟨by simpa using h1, h2, rfl⟩
          · right; right; rw [if_neg h1]; exact ⟨by simpa using h1, rfl⟩
        obtain ⟨k, hk, hk64, hside⟩ := hside
        rw [hk] at H3 HS
        have O3 := Lib.hid ((hO.drew.setCell (p := ⟨M.gS, i, none⟩) (by simp [XL.fp]) (.string (cutB k a b))).setCell (p := ⟨M.gI, i, none⟩) (by simp [XL.fp]) (.bool false))
        have hq : q ∉ M.fp := fun e => by have := hlt.out q e; have := hx'.out; omega
        have B3 := Lib.hid ((hB.drew.far (p := ⟨M.gS, i, none⟩) (fun e => hq (by simp [XL.fp, e])) (.string (cutB k a b))).far (p := ⟨M.gI, i, none⟩) (fun e => hq (by simp [XL.fp, e])) (.bool false))
        have C3 := Lib.hid (hCw.only (S := M.fp) (((Only.refl _ wr).drew.setCell (p := ⟨M.gS, i, none⟩) (by simp [XL.fp]) (.string (cutB k a b))).setCell (p := ⟨M.gI, i, none⟩) (by simp [XL.fp]) (.bool false)) HAP.out)
        clear hk hleft hD hB hCw hO hq
        rcases hside with ⟨t1, t2, t3⟩ | ⟨t1, t2, rfl⟩ | ⟨t1, t2⟩
        · by_cases hjm : j < C.m
          · obtain ⟨ad, hA, hcell⟩ := hkp hjm
            rw [hA] at c0
            clear hkp hA
            cases hv : C.kp j
            all_goals
              rw [hv] at hcell
              clear hv
              go_wp2_with fail
              go_region
              all_goals go_wp2_with fail
              all_goals go_roundw
              all_goals first | exact ⟨i + 1, by omega, by go_num, by rw [HS.out]; go_num, by rw [HS.out]; exact H3.out, B3.out, C3.out, O3.out⟩ | (simp [intOf]; omega)
          · clear hkp
            go_wp2_with fail
            go_region
            all_goals go_wp2_with fail
            all_goals go_roundw
            all_goals first | exact ⟨i + 1, by omega, by go_num, by rw [HS.out]; go_num, by rw [HS.out]; exact H3.out, B3.out, C3.out, O3.out⟩ | (simp [intOf]; omega)
        · rw [cutB_zero] at H3 B3 C3 O3 HS
          by_cases hjm : j < C.m
          · obtain ⟨ad, hA, hcell⟩ := hkp hjm
            rw [hA] at c0
            clear hkp hA
            cases hv : C.kp j
            all_goals
              rw [hv] at hcell
              clear hv
              go_wp2_with fail
              go_region
              all_goals go_wp2_with fail
              all_goals go_roundw
              all_goals first | exact ⟨i + 1, by omega, by go_num, by rw [HS.out]; go_num, by rw [HS.out]; exact H3.out, B3.out, C3.out, O3.out⟩ | (simp [intOf]; omega)
          · clear hkp
            go_wp2_with fail
            go_region
            all_goals go_wp2_with fail
            all_goals go_roundw
            all_goals first | exact ⟨i + 1, by omega, by go_num, by rw [HS.out]; go_num, by rw [HS.out]; exact H3.out, B3.out, C3.out, O3.out⟩ | (simp [intOf]; omega)
        · by_cases hjm : j < C.m
          · obtain ⟨ad, hA, hcell⟩ := hkp hjm
            rw [hA] at c0
            clear hkp hA
            cases hv : C.kp j
            · rw [hv, if_neg (by simp)] at t2
              rw [hv] at hcell
              subst t2
              rw [cutB_zero] at H3 B3 C3 O3 HS
              clear hv
              go_wp2_with fail
              go_region
              all_goals go_wp2_with fail
              all_goals go_roundw
              all_goals first | exact ⟨i + 1, by omega, by go_num, by rw [HS.out]; go_num, by rw [HS.out]; exact H3.out, B3.out, C3.out, O3.out⟩ | (simp [intOf]; omega)
            · rw [hv, if_pos ⟨hjm, rfl⟩] at t2
              rw [hv] at hcell
              subst t2
              clear hv
              rw [cutB_all] at H3 B3 C3 O3 HS
              go_wp2_with fail
              go_region
              all_goals go_wp2_with fail
              all_goals go_roundw
              all_goals first | exact ⟨i + 1, by omega, by go_num, by rw [HS.out]; go_num, by rw [HS.out]; exact H3.out, B3.out, C3.out, O3.out⟩ | (simp [intOf]; omega)
          · rw [if_neg (by simp [hjm])] at t2
            subst t2
            rw [cutB_zero] at H3 B3 C3 O3 HS
            clear hkp
            go_wp2_with fail
            go_region
            all_goals go_wp2_with fail
            all_goals go_roundw
            all_goals first | exact ⟨i + 1, by omega, by go_num, by rw [HS.out]; go_num, by rw [HS.out]; exact H3.out, B3.out, C3.out, O3.out⟩ | (simp [intOf]; omega)
    · have hin : i = n := by omega
      subst hin
      have f3 := hD.f3
      have f5 := hD.f5
      have z3 := hD.fz 3 (by omega)
      have z5 := hD.fz 5 (by omega)
      have HD := Lib.hid hD
      clear hD
      go_wp2_with fail
      go_end0
      have o1 : Only [M.b] wr ((wr.setCell ⟨M.b, 5, none⟩ (.bool false)).setCell ⟨M.b, 3, none⟩ (.int .i64 0)) := ((Only.refl _ _).setCell (by simp) _).setCell (by simp) _
      exact ⟨rfl, HD.out.head (x' := x.crashF C i) ((HD.out.hb.set_ 5 (.bool false)).set_ 3 (.int .i64 0)) o1 rfl rfl rfl, ((Only.of_below (by rw [hx'.out]; exact O0.out)).trans hO).trans (o1.mono (by simp [XL.fp]))⟩
end Go.Proofs.Ytclompapmbhijaa.Dk
