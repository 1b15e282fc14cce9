/- the reference's map by its contracts: Use, Leave, Take, Turn, List; Ints. -/
import Derived.Test.YtiiknbnaplpidabFmRef
namespace Go.Proofs.Ytiiknbnaplpidab.Fm
open Go.RowKit

theorem ruse_any {w : World} {b : Nat} {v : Value} {l : List Int} (m : RefAt w b v l) (i : Int) :
    Calls Try.prog 27 #[mp b, .int .i64 i] w fun e w' => e = .returned (.int .i64 (useF l i).2) ∧ RefTo w w' b v (useF l i).1 := by
  by_cases hin : inF l i = true
  · have hin' := hin
    simp only [inF, decide_eq_true_eq] at hin'
    obtain ⟨h0, h1⟩ := hin'
    obtain ⟨k, rfl⟩ := Int.eq_ofNat_of_zero_le h0
    have hk : k < l.length := by omega
    have hl := m.hl
    have c0 := m.c0
    obtain ⟨g, cap, rfl, hcap, hc⟩ := m.fmt (by omega)
    have ck := hc k hk
    clear hc
    by_cases hz : l.getD k 0 = 0
    · have hu : useF l k = (l.set k 1, 0) := by simp only [useF, hin, if_true, Int.toNat_natCast, hz]
      rw [hu]
      rw [hz] at ck
      have K := Lib.hid (rset_any m k 1 hk)
      clear hz hu
      unfold mp at *
      go_enter Try.func27, Try.ntmps27
      go_wp2_with fail
      refine (rat_ok m k hin).mono ?_
      rintro e w1 ⟨rfl, rfl⟩
      go_wp2_with fail
      refine K.out.mono ?_
      rintro e w1 ⟨rfl, R⟩
      go_wp2_with fail
      go_ret
      exact ⟨rfl, R⟩
    · have hu : useF l k = (l, 10) := by simp only [useF, hin, if_true, Int.toNat_natCast, if_neg hz]
      rw [hu]
      clear hu
      generalize l.getD k 0 = x at ck hz
      unfold mp
      go_enter Try.func27, Try.ntmps27
      go_wp2_with fail
      refine (rat_ok m k hin).mono ?_
      rintro e w1 ⟨rfl, rfl⟩
      go_wp2_with fail
      go_ret
      exact ⟨rfl, m.to_self⟩
  · have hin' : inF l i = false := by simpa using hin
    have hu : useF l i = (l, 3) := by simp only [useF, hin']; rfl
    rw [hu]
    clear hu
    unfold mp
    go_enter Try.func27, Try.ntmps27
    go_wp2_with fail
    refine (rat_no m i hin').mono ?_
    rintro e w1 ⟨rfl, rfl⟩
    go_wp2_with fail
    go_ret
    exact ⟨rfl, m.to_self⟩

theorem rleave_any {w : World} {b : Nat} {v : Value} {l : List Int} (m : RefAt w b v l) (i : Int) :
    Calls Try.prog 28 #[mp b, .int .i64 i] w fun e w' => e = .returned (.int .i64 (leaveF l i).2) ∧ RefTo w w' b v (leaveF l i).1 := by
  by_cases hin : inF l i = true
  · have hin' := hin
    simp only [inF, decide_eq_true_eq] at hin'
    obtain ⟨h0, h1⟩ := hin'
    obtain ⟨k, rfl⟩ := Int.eq_ofNat_of_zero_le h0
    have hk : k < l.length := by omega
    have hl := m.hl
    have c0 := m.c0
    obtain ⟨g, cap, rfl, hcap, hc⟩ := m.fmt (by omega)
    have ck := hc k hk
    clear hc
    by_cases hz : l.getD k 0 = 2
    · have hu : leaveF l k = (l.set k 0, 0) := by simp only [leaveF, hin, if_true, Int.toNat_natCast, hz]
      rw [hu]
      rw [hz] at ck
      have K := Lib.hid (rset_any m k 0 hk)
      clear hz hu
      unfold mp at *
      go_enter Try.func28, Try.ntmps28
      go_wp2_with fail
      refine (rat_ok m k hin).mono ?_
      rintro e w1 ⟨rfl, rfl⟩
      go_wp2_with fail
      refine K.out.mono ?_
      rintro e w1 ⟨rfl, R⟩
      go_wp2_with fail
      go_ret
      exact ⟨rfl, R⟩
    · by_cases hz1 : l.getD k 0 = 1
      · have hu : leaveF l k = (l.set k 3, 0) := by simp only [leaveF, hin, if_true, Int.toNat_natCast, hz1]; rfl
        rw [hu]
        rw [hz1] at ck
        have K := Lib.hid (rset_any m k 3 hk)
        clear hz hz1 hu
        unfold mp at *
        go_enter Try.func28, Try.ntmps28
        go_wp2_with fail
        refine (rat_ok m k hin).mono ?_
        rintro e w1 ⟨rfl, rfl⟩
        go_wp2_with fail
        refine K.out.mono ?_
        rintro e w1 ⟨rfl, R⟩
        go_wp2_with fail
        go_ret
        exact ⟨rfl, R⟩
      · have hu : leaveF l k = (l, 9) := by simp only [leaveF, hin, if_true, Int.toNat_natCast, if_neg hz, if_neg hz1]
        rw [hu]
        clear hu
        generalize l.getD k 0 = x at ck hz hz1
        unfold mp
        go_enter Try.func28, Try.ntmps28
        go_wp2_with fail
        refine (rat_ok m k hin).mono ?_
        rintro e w1 ⟨rfl, rfl⟩
        go_wp2_with fail
        go_ret
        exact ⟨rfl, m.to_self⟩
  · have hin' : inF l i = false := by simpa using hin
    have hu : leaveF l i = (l, 3) := by simp only [leaveF, hin']; rfl
    rw [hu]
    clear hu
    unfold mp
    go_enter Try.func28, Try.ntmps28
    go_wp2_with fail
    refine (rat_no m i hin').mono ?_
    rintro e w1 ⟨rfl, rfl⟩
    go_wp2_with fail
    go_ret
    exact ⟨rfl, m.to_self⟩

theorem rtake_any {w : World} {b : Nat} {v : Value} {l : List Int} (m : RefAt w b v l) :
    Calls Try.prog 30 #[mp b] w fun e w' => e = .returned (.tuple #[.int .i64 (takeF l).2.1, .int .i64 (takeF l).2.2]) ∧ RefTo w w' b v (takeF l).1 := by
  have hl := m.hl
  have c0 := m.c0
  obtain ⟨A, c, rfl⟩ := slc_len m.hs
  have HM := Lib.hid m
  clear m
  unfold mp
  go_enter Try.func30, Try.ntmps30
  go_wp2
  go_loop [4] (fun i => ∃ k : Nat, k ≤ l.length ∧ i = .int .i64 k ∧ Hid (∀ x, x < k → l.getD x 0 ≠ 0)) (fun i => l.length - (intOf i).toNat)
  case atStart => exact ⟨0, by omega, rfl, Lib.hid (by omega)⟩
  case round =>
    obtain ⟨k, hk, rfl, H⟩ := hrel
    by_cases h : k < l.length
    · obtain ⟨g, cap, hv, hcap, hc⟩ := HM.out.fmt (by omega)
      simp only [Value.slice.injEq, true_and] at hv
      obtain ⟨rfl, rfl⟩ := hv
      have ck := hc k h
      clear hc
      by_cases hz : l.getD k 0 = 0
      · have hf := first_eq l 0 k h H.out hz
        have hu : takeF l = (l.set k 2, (k : Int), 0) := by rw [takeF, hf, if_pos h]
        have HU := Lib.hid hu
        have K := Lib.hid (rset_any HM.out k 2 h)
        rw [hz] at ck
        clear hz hf hu
        unfold mp at K
        go_wp2_with fail
        refine K.out.mono ?_
        rintro e w1 ⟨rfl, R⟩
        go_wp2_with fail
        go_ret2
        exact ⟨by rw [HU.out]; rfl, by rw [HU.out]; exact R⟩
      · have H2 := Lib.hid (show ∀ x, x < k + 1 → l.getD x 0 ≠ 0 from fun x hx => by
          rcases Nat.lt_or_ge x k with h1 | h1
          · exact H.out x h1
          · have : x = k := by omega
            subst this; exact hz)
        generalize l.getD k 0 = y at ck hz
        go_wp2_with fail
        go_round
        case rel => exact ⟨k + 1, by omega, by go_num, H2⟩
        case measure => simp [intOf]; omega
    · have hkl : k = l.length := by omega
      have hu : takeF l = (l, 0, 11) := by rw [takeF, first_none l 0 (by rw [← hkl]; exact H.out), if_neg (by omega)]
      have HU := Lib.hid hu
      clear hu hkl
      go_wp2_with fail
      go_ret2
      exact ⟨by rw [HU.out]; rfl, by rw [HU.out]; exact HM.out.to_self⟩

theorem listTo_map (f : Int → Int) (l : List Int) (k : Nat) (h : k < l.length) : (l.take (k + 1)).map f = (l.take k).map f ++ [f (l.getD k 0)] := by
  rw [List.take_succ_eq_append_getElem h, List.map_append]
  simp [List.getD, List.getElem?_eq_getElem h]
/-- the reference's Turn: what becomes of fresh ones, and of leaving ones -/
theorem rturn_any {w : World} {b : Nat} {v : Value} {l : List Int} (m : RefAt w b v l) (fresh leaving : Int) :
    Calls Try.prog 29 #[mp b, .int .i64 fresh, .int .i64 leaving] w fun e w' => e = .returned (.tuple #[]) ∧ RefTo w w' b v (turnF leaving fresh l) := by
  have hl := m.hl
  have c0 := m.c0
  obtain ⟨A, c, rfl⟩ := slc_len m.hs
  have HM := Lib.hid m
  have hbl := m.hb.lt
  clear m
  unfold mp
  go_enter Try.func29, Try.ntmps29
  go_wp2
  go_loopw [6, 7, 8] (fun out i _ wr => ∃ k : Nat, k ≤ l.length ∧ i = .int .i64 k ∧ Slc wr 3 1 out k (ints ((l.take k).map (turnOne leaving fresh))) ∧ Below w.heap.size w wr ∧ Hid (∀ x ∈ ownB out, w.heap.size ≤ x)) (fun _ i _ _ => l.length - (intOf i).toNat)
  case atStart => exact ⟨0, by omega, rfl, Slc.nil _ _ _, Below.refl _ _, Lib.hid (by simp [ownB])⟩
  case round =>
    obtain ⟨k, hk, rfl, S, O, F⟩ := hrel
    have M := HM.out.below O
    have c0r := M.c0
    by_cases h : k < l.length
    · obtain ⟨g, cap, hv, hcap, hc⟩ := M.fmt (by omega)
      simp only [Value.slice.injEq, true_and] at hv
      obtain ⟨rfl, rfl⟩ := hv
      have ck := hc k h
      clear hc
      have hstep := Lib.hid (listTo_map (turnOne leaving fresh) l k h)
      obtain ⟨v', w', ea, S', O', F'⟩ := append_int S (turnOne leaving fresh (l.getD k 0)) (by omega)
      rw [← hstep.out] at S'
      have F' := Lib.hid F'
      have HX := Lib.hid (show ∀ x, turnOne leaving fresh x = if x = 3 then leaving else if x = 2 then fresh else x from fun _ => rfl)
      generalize l.getD k 0 = x at *
      by_cases h2 : x = 2
      · subst h2
        have e2 : turnOne leaving fresh 2 = fresh := by rw [HX.out]; rfl
        rw [e2] at ea
        have EA := Lib.hid ea
        clear ea e2
        go_wp2_with (at_builtin; refine wpList_append_run rfl _ _ _ rfl _ _ rfl rfl EA.out ?_)
        go_roundw
        case rel => exact ⟨k + 1, by omega, by go_num, S', O.trans (O'.below_of O.size F.out), Lib.hid fun x hx => (F'.out x hx).elim (F.out x) (fun h => Nat.le_trans O.size h)⟩
        case measure => simp [intOf]; omega
      · by_cases h3 : x = 3
        · subst h3
          have e2 : turnOne leaving fresh 3 = leaving := by rw [HX.out]; rfl
          rw [e2] at ea
          have EA := Lib.hid ea
          clear ea e2
          go_wp2_with (at_builtin; refine wpList_append_run rfl _ _ _ rfl _ _ rfl rfl EA.out ?_)
          go_roundw
          case rel => exact ⟨k + 1, by omega, by go_num, S', O.trans (O'.below_of O.size F.out), Lib.hid fun x hx => (F'.out x hx).elim (F.out x) (fun h => Nat.le_trans O.size h)⟩
          case measure => simp [intOf]; omega
        · have e2 : turnOne leaving fresh x = x := by rw [HX.out, if_neg h3, if_neg h2]
          rw [e2] at ea
          have EA := Lib.hid ea
          clear ea e2
          go_wp2_with (at_builtin; refine wpList_append_run rfl _ _ _ rfl _ _ rfl rfl EA.out ?_)
          go_roundw
          case rel => exact ⟨k + 1, by omega, by go_num, S', O.trans (O'.below_of O.size F.out), Lib.hid fun x hx => (F'.out x hx).elim (F.out x) (fun h => Nat.le_trans O.size h)⟩
          case measure => simp [intOf]; omega
    · have hkl : k = l.length := by omega
      subst hkl
      obtain ⟨A2, c2, rfl⟩ := slc_len S
      have S2 : Slc wr 3 1 (.slice A2 l.length c2) (turnF leaving fresh l).length (ints (turnF leaving fresh l)) := by
        rw [turnF_length]; rw [List.take_length] at S; exact S
      have HS := Lib.hid S2
      have fb := M.hb.frozen 0 (by simp)
      have Bb := Lib.hid M.hb
      clear S S2
      go_wp2_with fail
      go_end0
      have hd : ∀ x ∈ ownB (.slice A2 l.length c2), x ∉ [b] := fun x hx => by have := F.out x hx; simp; omega
      have o1 : Only [b] wr (wr.setCell ⟨b, 0, none⟩ (.slice A2 l.length c2)) := (Only.refl _ _).setCell (by simp) _
      exact ⟨rfl, .slice A2 l.length c2, ⟨Bb.out.set_ 0 _, HS.out.only o1 hd, by rw [turnF_length]; exact hl⟩, (Only.of_below O).trans o1, fun x hx => .inr (F.out x hx)⟩

theorem rlist_any {w : World} {b : Nat} {v : Value} {l : List Int} (m : RefAt w b v l) (kind : Int) :
    Calls Try.prog 17 #[mp b, .int .i64 kind] w fun e w' => ∃ v, e = .returned v ∧ Slc w' 3 1 v (listF l kind).length (ints (listF l kind)) ∧ Below w.heap.size w w' ∧ (∀ x ∈ ownB v, w.heap.size ≤ x) := by
  have hl := m.hl
  have c0 := m.c0
  obtain ⟨A, c, rfl⟩ := slc_len m.hs
  have HM := Lib.hid m
  clear m
  unfold mp
  go_enter Try.func17, Try.ntmps17
  go_wp2
  go_loopw [5, 6] (fun v i wr => ∃ k : Nat, k ≤ l.length ∧ i = .int .i64 k ∧ Slc wr 3 1 v (listTo l kind k).length (ints (listTo l kind k)) ∧ Below w.heap.size w wr ∧ Hid (∀ x ∈ ownB v, w.heap.size ≤ x)) (fun _ i _ => l.length - (intOf i).toNat)
  case atStart => exact ⟨0, by omega, rfl, Slc.nil _ _ _, Below.refl _ _, Lib.hid (by simp [ownB])⟩
  case round =>
    obtain ⟨k, hk, rfl, S, O, F⟩ := hrel
    have hlt := listTo_length l kind k
    have M := HM.out.below O
    have c0r := M.c0
    by_cases h : k < l.length
    · obtain ⟨g, cap, hv, hcap, hc⟩ := M.fmt (by omega)
      simp only [Value.slice.injEq, true_and] at hv
      obtain ⟨rfl, rfl⟩ := hv
      have ck := hc k h
      clear hc
      by_cases h3 : l.getD k 0 = kind
      · have HX := Lib.hid (show listTo l kind (k + 1) = listTo l kind k ++ [(k : Int)] by simp only [listTo, if_pos h3])
        rw [h3] at ck
        clear h3 M
        obtain ⟨v', w', ea, S', O', F'⟩ := append_int S k (by omega)
        have F' := Lib.hid F'
        have EA := Lib.hid ea
        clear ea
        generalize listTo l kind k = L at *
        go_wp2_with (at_builtin; refine wpList_append_run rfl _ _ _ rfl _ _ rfl rfl EA.out ?_)
        go_roundw
        case rel => exact ⟨k + 1, by omega, by go_num, by rw [HX.out]; simpa using S', O.trans (O'.below_of O.size F.out), Lib.hid fun x hx => (F'.out x hx).elim (F.out x) (fun h => Nat.le_trans O.size h)⟩
        case measure => simp [intOf]; omega
      · have HX := Lib.hid (show listTo l kind (k + 1) = listTo l kind k by simp only [listTo, if_neg h3]; simp)
        generalize l.getD k 0 = x at *
        clear M
        have hne : (x == kind) = false := by simpa using h3
        go_wp2
        go_roundw
        case rel => exact ⟨k + 1, by omega, by go_num, by rw [HX.out]; exact S, O, F⟩
        case measure => simp [intOf]; omega
    · have hkl : k = l.length := by omega
      have HX := Lib.hid hkl
      clear hkl
      go_wp2
      go_ret
      refine ⟨_, rfl, ?_, O, F.out⟩
      unfold listF
      rw [← HX.out]
      exact S

/-- two lists of numbers: the same? -/
theorem ints_same {w : World} {v u : Value} {l k : List Int} (S : Slc w 3 1 v l.length (ints l)) (U : Slc w 3 1 u k.length (ints k)) (hl : l.length ≤ 1000000) (e : l = k) :
    Calls Try.prog 15 #[v, u] w fun e w' => e = .returned (.bool true) ∧ ∃ n, w' = w.drewN n := by
  subst e
  obtain ⟨A, c, rfl⟩ := slc_len S
  obtain ⟨A', c', rfl⟩ := slc_len U
  go_enter Try.func15, Try.ntmps15
  go_wp2
  go_loopw [5] (fun i wr => ∃ j n : Nat, j ≤ l.length ∧ i = .int .i64 j ∧ wr = w.drewN n) (fun i _ => l.length - (intOf i).toNat)
  case atStart => exact ⟨0, 0, by omega, rfl, rfl⟩
  case round =>
    obtain ⟨j, n, hj, rfl, rfl⟩ := hrel
    by_cases h : j < l.length
    · obtain ⟨g, cap, rest, hv, B, _⟩ := S.form (by omega) (by omega)
      obtain ⟨g', cap', rest', hv', B', _⟩ := U.form (by omega) (by omega)
      simp only [Value.slice.injEq, true_and] at hv hv'
      obtain ⟨rfl, rfl⟩ := hv
      obtain ⟨rfl, rfl⟩ := hv'
      have cj : w.cell? ⟨g, j, none⟩ = some (.int .i64 l[j]) := B.cell_some (by rw [List.getElem?_toArray, List.getElem?_append_left (by simpa using h), ints_get _ _ h])
      have cj' : w.cell? ⟨g', j, none⟩ = some (.int .i64 l[j]) := B'.cell_some (by rw [List.getElem?_toArray, List.getElem?_append_left (by simpa using h), ints_get _ _ h])
      generalize l[j] = x at cj cj'
      go_wp2
      go_region
      all_goals go_wp2
      all_goals go_roundw
      case rel => exact ⟨j + 1, n + 1, by omega, by go_num, by simp⟩
      case measure => simp [intOf]; omega
    · go_wp2
      go_ret
      exact ⟨rfl, n, rfl⟩
end Go.Proofs.Ytiiknbnaplpidab.Fm
