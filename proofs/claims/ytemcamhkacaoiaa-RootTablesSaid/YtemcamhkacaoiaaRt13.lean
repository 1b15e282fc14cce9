/- roots: a table goes into parts, and back. -/
import Derived.Test.YtemcamhkacaoiaaRt12
import Derived.BigQuiet
namespace Go.Proofs.Ytemcamhkacaoiaa.Rt
open Go.RowKit Pk
attribute [local go_sem ↓] Go.wp_at_zero Go.wp_at_succ exec_app
set_option maxRecDepth 100000 in
set_option maxHeartbeats 8000000 in
theorem tables_any {w : World} (A : Option Addr) (n c : Nat) (l : List Int) (h : IntsAt w A n l) (hn : n ≤ 9223372036854775807) (hnc : n ≤ c) :
    Calls Try.prog 4 #[.slice A n c] w fun e w' => e = .returned (.bool true) ∧ Below w.heap.size w w' := by
  by_cases hbig : 700 < n
  · have hI : (700 : Int) < (n : Int) := by omega
    have KA := Lib.hid (awake13_any w)
    clear h
    go_enter Try.func4, Try.ntmps4
    go_wp2_with fail
    refine KA.out.mono ?_
    rintro e w1 ⟨rfl, hb1⟩
    have O1 := Lib.hid hb1
    clear hb1
    go_wp2_with fail
    go_ret
    exact ⟨by first | rfl | simp, O1.out⟩
  · have hI : ¬ (700 : Int) < (n : Int) := by omega
    have HI := Lib.hid h
    have HL := Lib.hid h.1
    have KA := Lib.hid (fun w => awake13_any w)
    obtain ⟨nd, hnd⟩ : ∃ nd : Nat, needF n = (nd : Int) := ⟨(needF n).toNat, by unfold needF; omega⟩
    have hnd1 : 116 * nd ≤ n + 115 := by unfold needF at hnd; omega
    have hnd2 : n ≤ 116 * nd := by unfold needF at hnd; omega
    have KN := Lib.hid (fun w => need_any (n : Int) (by omega) w)
    rw [hnd] at KN
    clear h hnd
    go_enter Try.func4, Try.ntmps4
    go_wp2_with fail
    go_loopw [3, 4] (fun av iv wr => ∃ i : Nat, i ≤ nd ∧ iv = .int .i64 i ∧ Slc wr 3 1 av (min (116 * i) n) (nvs ((l.take (116 * i)).map mx)) ∧ Below w.heap.size w wr ∧ Hid (∀ g ∈ ownB av, w.heap.size ≤ g)) (fun _ iv _ => nd - (intOf iv).toNat)
    case atStart => exact ⟨0, Nat.zero_le _, rfl, by simpa [nvs] using Slc.nil _ _ _, Below.refl _ _, Lib.hid (by simp [ownB])⟩
    case round =>
      obtain ⟨i, hi, rfl, S, O, F⟩ := hrel
      have OO := Lib.hid O
      have SS := Lib.hid S
      obtain ⟨AA, ac, rfl⟩ := slc_val S
      clear O S
      by_cases h' : i < nd
      · have hiI : (i : Int) < (nd : Int) := by omega
        go_wp2_with fail
        refine (KN.out _).mono ?_
        rintro e w1 ⟨rfl, hb1⟩
        have O1 := Lib.hid (bstep OO.out hb1)
        have S1 := Lib.hid (SS.out.below hb1)
        have K1 := Lib.hid (putpart_any A n c l (HI.out.below O1.out) (by omega) hnc i (by omega))
        clear hb1
        go_wp2_with fail
        refine K1.out.mono ?_
        rintro e w2 ⟨hx, hb2⟩
        have O2 := Lib.hid (bstep O1.out hb2)
        have S2 := Lib.hid (S1.out.below hb2)
        clear hb2 SS S1 K1 OO O1
        rcases hx with ⟨hbad, rfl⟩ | ⟨hgood, rfl⟩
        · go_wp2_with fail
          refine (KA.out _).mono ?_
          rintro e w3 ⟨rfl, hb3⟩
          have O3 := Lib.hid (bstep O2.out hb3)
          clear hb3
          go_wp2_with fail
          go_ret
          exact ⟨by first | rfl | simp, O3.out⟩
        · obtain ⟨m, hm⟩ : ∃ m, m = min 116 (n - 116 * i) := ⟨_, rfl⟩
          have hsl : (segF l i).length = m := by rw [segF_length, HL.out, hm]
          have HM := Lib.hid hm
          have hm1 : m ≤ 116 := by omega
          have hm2 : 116 * i + m ≤ n := by omega
          have hm3 : 1 ≤ m := by omega
          have hsz : (⟨(partF (segF l i)).toArray⟩ : ByteArray).size = 2 * m := by
            show (partF (segF l i)).toArray.size = _
            rw [List.size_toArray, partF_length, hsl]
          have KG := Lib.hid (getpart_any ⟨(partF (segF l i)).toArray⟩ m hm1 (by omega) (by omega) w2)
          have HG := Lib.hid (And.intro hsl hgood)
          have hmin : min (116 : Int) ((n : Int) - (i : Int) * 116) = (m : Int) := by omega
          have q1 : IntKind.i64.wrap ((i : Int) * 116) = (i : Int) * 116 := IntWalk.i64_in _ (by omega)
          have q2 : IntKind.i64.wrap ((n : Int) - (i : Int) * 116) = (n : Int) - (i : Int) * 116 := IntWalk.i64_in _ (by omega)
          clear hm hsl hgood hsz hmin
          by_cases hc : (n : Int) - (i : Int) * 116 < 116
          · have hmI : ((m : Nat) : Int) = (n : Int) - (i : Int) * 116 := by have := HM.out; omega
            rw [hmI] at KG
            have hne : ((m : Int) != (n : Int) - (i : Int) * 116) = false := by rw [hmI]; simp
            clear hmI
            go_wp2_with fail
            refine KG.out.mono ?_
            rintro e w3 ⟨hx, hb3⟩
            have O3 := Lib.hid (bstep O2.out hb3)
            have S3 := Lib.hid (S2.out.below hb3)
            obtain ⟨v, rfl, SV, FV⟩ : ∃ v, e = .returned (.tuple #[v, .int .i64 0]) ∧ Slc w3 3 1 v m (nvs ((segF l i).map mx)) ∧ ∀ g ∈ ownB v, w2.heap.size ≤ g := by
              have h1 := HG.out.1
              have h2 := HG.out.2
              rcases hx with ⟨⟨j, hj, hj2⟩, _⟩ | ⟨_, v, he, hs, hf⟩
              · exfalso
                have := part_small _ h2 j (by omega)
                have hj2 : 1024 < at2 (partF (segF l i)) (2 * j) := hj2
                omega
              · refine ⟨v, he, ?_, hf⟩
                have h3 := getF_part _ h2
                rw [h1] at h3
                have hs : Slc w3 3 1 v m (nvs (getF (partF (segF l i)) m)) := hs
                rw [h3] at hs
                exact hs
            clear hx hb3 S2 KG
            obtain ⟨gv, cv, rv, rfl, BV, hcv, hrv⟩ := SV.form (by omega) (by omega)
            obtain ⟨i0, ii, hz0, hz1, hz2⟩ := info_parts info_int1
            obtain ⟨v4, w4, ea, S4, ow, fr⟩ := append_slc (P := Try.prog) S3.out 22 22 i0 (.int .i64 0) 8 Try.underlying22 ii hz0 hz1 hz2 rfl (by omega)
              ⟨gv, 0, none⟩ m cv (nvs ((segF l i).map mx)) (by rw [SV.1]) (cells_at BV 0 _ (by intro j u hu; rw [Nat.zero_add]; exact List.getElem?_append_left (List.getElem?_eq_some_iff.1 hu).1 ▸ hu)) (by
                intro u hu
                unfold nvs at hu
                obtain ⟨x, _, rfl⟩ := List.mem_map.1 hu
                rfl) (by unfold maxLen; omega) (by omega)
            have EA := Lib.hid (show appRun Try.prog 22 22 w3 (.slice AA (min (116 * i) n) ac) (.slice (some ⟨gv, 0, none⟩) m cv) = .ok v4 w4 from ea)
            have SX := Lib.hid (show Slc w4 3 1 v4 (min (116 * (i + 1)) n) (nvs ((l.take (116 * (i + 1))).map mx)) from by
              rw [seg_next]
              have e1 : min (116 * (i + 1)) n = min (116 * i) n + m := by have := HM.out; omega
              rw [e1]
              unfold nvs at S4 ⊢
              rw [List.map_append]
              exact S4)
            have OX := Lib.hid (O3.out.trans (ow.below_of O3.out.size F.out))
            have FX := Lib.hid (show ∀ g ∈ ownB v4, w.heap.size ≤ g from fun g hg => (fr g hg).elim (F.out g) (fun h => Nat.le_trans O3.out.size h))
            clear ea S4 ow fr SV BV FV S3 hcv hrv hz0 hz1 hz2 ii
            go_wp2_with fail
            rw [EA.out]
            go_wp2_with fail
            go_roundw
            case rel => exact ⟨i + 1, by omega, by go_num, SX.out, OX.out, FX⟩
            case measure => simp [intOf]; omega
          · obtain rfl : m = 116 := by have := HM.out; omega
            have hc2 : (116 : Int) ≤ (n : Int) - (i : Int) * 116 := by omega
            go_wp2_with fail
            refine KG.out.mono ?_
            rintro e w3 ⟨hx, hb3⟩
            have O3 := Lib.hid (bstep O2.out hb3)
            have S3 := Lib.hid (S2.out.below hb3)
            obtain ⟨v, rfl, SV, FV⟩ : ∃ v, e = .returned (.tuple #[v, .int .i64 0]) ∧ Slc w3 3 1 v 116 (nvs ((segF l i).map mx)) ∧ ∀ g ∈ ownB v, w2.heap.size ≤ g := by
              have h1 := HG.out.1
              have h2 := HG.out.2
              rcases hx with ⟨⟨j, hj, hj2⟩, _⟩ | ⟨_, v, he, hs, hf⟩
              · exfalso
                have := part_small _ h2 j (by omega)
                have hj2 : 1024 < at2 (partF (segF l i)) (2 * j) := hj2
                omega
              · refine ⟨v, he, ?_, hf⟩
                have h3 := getF_part _ h2
                rw [h1] at h3
                have hs : Slc w3 3 1 v 116 (nvs (getF (partF (segF l i)) 116)) := hs
                rw [h3] at hs
                exact hs
            clear hx hb3 S2 KG
            obtain ⟨gv, cv, rv, rfl, BV, hcv, hrv⟩ := SV.form (by omega) (by omega)
            obtain ⟨i0, ii, hz0, hz1, hz2⟩ := info_parts info_int1
            obtain ⟨v4, w4, ea, S4, ow, fr⟩ := append_slc (P := Try.prog) S3.out 22 22 i0 (.int .i64 0) 8 Try.underlying22 ii hz0 hz1 hz2 rfl (by omega)
              ⟨gv, 0, none⟩ 116 cv (nvs ((segF l i).map mx)) (by rw [SV.1]) (cells_at BV 0 _ (by intro j u hu; rw [Nat.zero_add]; exact List.getElem?_append_left (List.getElem?_eq_some_iff.1 hu).1 ▸ hu)) (by
                intro u hu
                unfold nvs at hu
                obtain ⟨x, _, rfl⟩ := List.mem_map.1 hu
                rfl) (by unfold maxLen; omega) (by omega)
            have EA := Lib.hid (show appRun Try.prog 22 22 w3 (.slice AA (min (116 * i) n) ac) (.slice (some ⟨gv, 0, none⟩) 116 cv) = .ok v4 w4 from ea)
            have SX := Lib.hid (show Slc w4 3 1 v4 (min (116 * (i + 1)) n) (nvs ((l.take (116 * (i + 1))).map mx)) from by
              rw [seg_next]
              have e1 : min (116 * (i + 1)) n = min (116 * i) n + 116 := by have := HM.out; omega
              rw [e1]
              unfold nvs at S4 ⊢
              rw [List.map_append]
              exact S4)
            have OX := Lib.hid (O3.out.trans (ow.below_of O3.out.size F.out))
            have FX := Lib.hid (show ∀ g ∈ ownB v4, w.heap.size ≤ g from fun g hg => (fr g hg).elim (F.out g) (fun h => Nat.le_trans O3.out.size h))
            clear ea S4 ow fr SV BV FV S3 hcv hrv hz0 hz1 hz2 ii
            go_wp2_with fail
            rw [EA.out]
            go_wp2_with fail
            go_roundw
            case rel => exact ⟨i + 1, by omega, by go_num, SX.out, OX.out, FX⟩
            case measure => simp [intOf]; omega
      · obtain rfl : i = nd := by omega
        have e1 : min (116 * i) n = n := by omega
        have e2 : l.take (116 * i) = l := List.take_of_length_le (by rw [HL.out]; omega)
        rw [e1, e2] at SS
        rw [e1]
        clear e1 e2
        go_wp2_with fail
        refine (KN.out _).mono ?_
        rintro e w1 ⟨rfl, hb1⟩
        have O1 := Lib.hid (bstep OO.out hb1)
        have S1 := Lib.hid (SS.out.below hb1)
        clear hb1 SS OO F
        go_wp2_with fail
        go_loopw [10] (fun iv wr => ∃ j : Nat, j ≤ n ∧ iv = .int .i64 j ∧ Slc wr 3 1 (.slice AA n ac) n (nvs (l.map mx)) ∧ Below w.heap.size w wr) (fun iv _ => n - (intOf iv).toNat)
        case atStart => exact ⟨0, Nat.zero_le _, rfl, S1.out, O1.out⟩
        case round =>
          obtain ⟨j, hj, rfl, S, O⟩ := hrel
          have OO := Lib.hid O
          have SS := Lib.hid S
          by_cases h'' : j < n
          · obtain ⟨ad, x, rfl, hx, ck⟩ := (HI.out.below O).at j h''
            obtain ⟨g, cap, rest, hv, B, _⟩ := S.form (by omega) (by omega)
            injection hv with hv1 hv2 hv3
            subst hv1 hv3
            have hjI : (j : Int) < (n : Int) := by omega
            have cg : wr.cell? ⟨g, j, none⟩ = some (.int .i64 (mx x)) := by
              refine B.cell_some ?_
              have : (nvs (l.map mx))[j]? = some (.int .i64 (mx x)) := by unfold nvs; rw [List.getElem?_map, List.getElem?_map, hx]; rfl
              rw [List.getElem?_toArray, List.getElem?_append_left (List.getElem?_eq_some_iff.1 this).1]
              exact this
            have hnn : ((n : Int) != (n : Int)) = false := by simp
            clear S O hx B
            by_cases hneg : x < -1
            · rw [show mx x = -1 from by unfold mx; omega] at cg
              go_wp2_with fail
              go_quiet (fail)
              go_wp2_with fail
              go_roundw
              case rel => exact ⟨j + 1, by omega, by go_num, SS.out.drewN _, Below_drewN OO.out _⟩
              case measure => simp [intOf]; omega
            · rw [show mx x = x from by unfold mx; omega] at cg
              go_wp2_with fail
              go_quiet (fail)
              go_wp2_with fail
              go_roundw
              case rel => exact ⟨j + 1, by omega, by go_num, SS.out.drewN _, Below_drewN OO.out _⟩
              case measure => simp [intOf]; omega
          · obtain rfl : j = n := by omega
            clear S O
            go_wp2_with fail
            refine (KA.out _).mono ?_
            rintro e w2 ⟨rfl, hb2⟩
            have O2 := Lib.hid (bstep OO.out hb2)
            clear hb2
            go_wp2_with fail
            go_ret
            exact ⟨by first | rfl | simp, O2.out⟩
end Go.Proofs.Ytemcamhkacaoiaa.Rt
