/- shadow by its contracts: Pages. -/
import Derived.Test.YtbelcgjbhpjnpaaGreatSh6
namespace Go.Proofs.YtbelcgjbhpjnpaaGreat.Sh
open Go.RowKit Pk Dk Pg
attribute [local go_sem ↓] Go.wp_at_zero Go.wp_at_succ exec_app
/-- the pages that are there, among the first k -/
def pgs (t : List Int) : Nat → List Int
  | 0 => []
  | k + 1 => pgs t k ++ if 0 ≤ t.getD k 0 then [(k : Int)] else []
theorem pgs_le (t : List Int) : ∀ k, (pgs t k).length ≤ k
  | 0 => Nat.le_refl _
  | k + 1 => by
    have := pgs_le t k
    unfold pgs
    rw [List.length_append]
    split <;> simp <;> omega
set_option maxRecDepth 100000 in
set_option maxHeartbeats 2000000 in
theorem pages_list {w : World} {x : X} {n : Nat} {c : C} (h : At w x n c) :
    Calls Tryz.prog 36 #[sp x.b] w fun e w' => ∃ A cc, e = .returned (.slice A (pgs c.table c.table.length).length cc) ∧ Slc w' 3 1 (.slice A (pgs c.table c.table.length).length cc) (pgs c.table c.table.length).length (nvs' (pgs c.table c.table.length)) ∧ Below w.heap.size w w' := by
  have f2 := h.f2
  have tl := h.tl
  obtain ⟨TA, tc, htv, htc⟩ := h.ht.val
  rw [htv] at f2
  have HT := Lib.hid (fun (k : Nat) (hk : k < c.table.length) (W : World) (hb : Below w.heap.size w W) => (h.below hb).tk k hk)
  have HV := Lib.hid htv
  obtain ⟨t, ht⟩ : ∃ t, c.table = t := ⟨_, rfl⟩
  rw [ht] at f2 tl htc HT HV ⊢
  obtain ⟨tn, htn⟩ : ∃ tn, t.length = tn := ⟨_, rfl⟩
  rw [htn] at f2 tl htc HT HV ⊢
  clear h htv ht htn
  unfold sp at *
  go_enter Tryz.func36, Tryz.ntmps36
  go_wp2_with fail
  go_loopw [3, 14] (fun bv iv wr => ∃ k : Nat, k ≤ tn ∧ iv = .int .i64 k ∧ Slc wr 3 1 bv (pgs t k).length (nvs' (pgs t k)) ∧ Hid (Below w.heap.size w wr) ∧ Hid (∀ g ∈ ownB bv, w.heap.size ≤ g)) (fun _ iv _ => tn - (intOf iv).toNat)
  case atStart => exact ⟨0, Nat.zero_le _, rfl, Slc.nil _ _ _, Lib.hid (Below.refl _ _), Lib.hid (by simp [ownB])⟩
  case round =>
    obtain ⟨k, hk, rfl, S, O, F⟩ := hrel
    have hle := pgs_le t k
    obtain ⟨VA, vc, rfl⟩ := slc_val S
    by_cases h' : k < tn
    · have hkI : (k : Int) < (tn : Int) := by omega
      obtain ⟨g, cp, hv, ck⟩ := HT.out k h' wr O.out
      rw [HV.out] at hv
      injection hv with e1 e2 e3
      subst e1 e3
      obtain ⟨u, hu⟩ : ∃ u, t.getD k 0 = u := ⟨_, rfl⟩
      rw [hu] at ck
      by_cases hpos : 0 ≤ u
      · have hnext : pgs t (k + 1) = pgs t k ++ [(k : Int)] := by
          show pgs t k ++ _ = _
          rw [hu, if_pos hpos]
        obtain ⟨v', w2, ea, S2, ow, fr⟩ := append_one (P := Tryz.prog) S 52 52 (.int .i64 0) 8 Tryz.underlying52 info_int2 rfl (.int .i64 (k : Int)) rfl (by unfold maxLen; omega) (by omega)
        obtain ⟨V2, vc2, rfl⟩ := slc_val S2
        have hlen : (pgs t (k + 1)).length = (pgs t k).length + 1 := by rw [hnext]; simp
        have EA := Lib.hid ea
        have SX := Lib.hid (show Slc w2 3 1 (.slice V2 ((pgs t k).length + 1) vc2) (pgs t (k + 1)).length (nvs' (pgs t (k + 1))) from by
          rw [hlen, hnext, nvs'_append]; exact S2)
        have OX := Lib.hid (O.out.trans (ow.below_of O.out.size F.out))
        have FX := Lib.hid (show ∀ g' ∈ ownB (.slice V2 ((pgs t k).length + 1) vc2), w.heap.size ≤ g' from fun g' hg => (fr g' hg).elim (F.out g') (fun h => Nat.le_trans O.out.size h))
        clear ea S2 ow fr S hnext hlen hu
        generalize (pgs t k).length = pl at *
        go_wp2_with fail
        rw [EA.out]
        go_wp2_with fail
        go_roundw
        case rel => exact ⟨k + 1, by omega, by go_num, SX.out, OX, FX⟩
        case measure => simp [intOf]; omega
      · have hnext : pgs t (k + 1) = pgs t k := by
          show pgs t k ++ _ = _
          rw [hu, if_neg hpos, List.append_nil]
        have SX := Lib.hid S
        have HN := Lib.hid hnext
        clear S hnext hu
        go_wp2_with fail
        go_roundw
        case rel => exact ⟨k + 1, by omega, by go_num, by rw [HN.out]; exact SX.out, O, F⟩
        case measure => simp [intOf]; omega
    · obtain rfl : k = tn := by omega
      have SX := Lib.hid S
      clear S
      go_wp2_with fail
      go_ret
      exact ⟨_, _, by first | rfl | simp, SX.out, O.out⟩
end Go.Proofs.YtbelcgjbhpjnpaaGreat.Sh
