/- roots: a table's parts. -/
import Derived.Test.YtemcamhkacaoiaaRt3
import Derived.Deep.QuietTactic
namespace Go.Proofs.Ytemcamhkacaoiaa.Rt
open Go.RowKit Pk
attribute [local go_sem ↓] Go.wp_at_zero Go.wp_at_succ
/-- a page's number in a table, as it is laid -/
def num1 (x : Int) : Nat := (max x (-1) + 1).toNat
def partF (l : List Int) : List UInt8 := (l.map num1).flatMap two8
def segF (l : List Int) (p : Nat) : List Int := (l.drop (116 * p)).take 116
theorem segF_length (l : List Int) (p : Nat) : (segF l p).length = min 116 (l.length - 116 * p) := by simp [segF]
theorem segF_get (l : List Int) (p i : Nat) (h : i < 116) : (segF l p)[i]? = l[116 * p + i]? := by
  unfold segF
  rw [List.getElem?_take, if_pos h, List.getElem?_drop]
/-- one number more -/
theorem part_step {w : World} {ad : Addr} {n m p i : Nat} {l : List Int} (h : IntsAt w (some ad) n l) (hm1 : m ≤ 116) (hm2 : 116 * p + m ≤ n) (hi : i < m) :
    ∃ x, w.cell? ((ad.add (p * 116)).add i) = some (.int .i64 x) ∧ (segF l p).take (i + 1) = (segF l p).take i ++ [x] ∧ partF ((segF l p).take (i + 1)) = partF ((segF l p).take i) ++ two8 (num1 x) ∧ x ∈ segF l p := by
  obtain ⟨ad', x, e, hx, ck⟩ := h.at (116 * p + i) (by omega)
  cases e
  have hl := h.1
  have hg : (segF l p)[i]? = some x := by rw [segF_get _ _ _ (by omega)]; exact hx
  obtain ⟨hlt, hge⟩ := List.getElem?_eq_some_iff.1 hg
  have ht : (segF l p).take (i + 1) = (segF l p).take i ++ [x] := by rw [List.take_succ_eq_append_getElem hlt, hge]
  refine ⟨x, ?_, ht, ?_, List.mem_of_getElem? hg⟩
  · rw [add_of_add, show p * 116 + i = 116 * p + i by omega]; exact ck
  · rw [ht]; unfold partF; rw [List.map_append, List.flatMap_append]; simp
set_option maxRecDepth 100000 in
set_option maxHeartbeats 4000000 in
theorem putpart_any {w : World} (A : Option Addr) (n c : Nat) (l : List Int) (h : IntsAt w A n l) (hn : n ≤ 1000000) (hnc : n ≤ c) (p : Nat) (hp : 116 * p < n) :
    Calls Try.prog 12 #[.slice A n c, .int .i64 (p : Nat)] w fun e w' => (((∃ x ∈ segF l p, 1023 < x) ∧ e = .returned (.tuple #[.string ⟨#[]⟩, .int .i64 2])) ∨ ((∀ x ∈ segF l p, x ≤ 1023) ∧ e = .returned (.tuple #[.string ⟨(partF (segF l p)).toArray⟩, .int .i64 0]))) ∧ Below w.heap.size w w' := by
  have hneed : (p : Int) < needF n := by unfold needF; omega
  have h1 : ¬ (p : Int) < 0 := by omega
  have h2 : ¬ (p : Int) ≥ needF n := by omega
  have h2b : ¬ needF n ≤ (p : Int) := by omega
  have KN := Lib.hid (need_any (n : Int) (by omega) w)
  have HL := Lib.hid h.1
  have HI := Lib.hid h
  obtain ⟨ad, x0, rfl, _, _⟩ := h.at 0 (by omega)
  obtain ⟨m, hm⟩ : ∃ m, m = min 116 (n - 116 * p) := ⟨_, rfl⟩
  have HM := Lib.hid hm
  have hm1 : m ≤ 116 := by omega
  have hm2 : 116 * p + m ≤ n := by omega
  clear h hm
  generalize needF n = nd at *
  have e1 : IntKind.i64.wrap ((p : Int) * 116) = (p : Int) * 116 := IntWalk.i64_in _ (by omega)
  have e2 : IntKind.i64.wrap ((p : Int) + 1) = (p : Int) + 1 := IntWalk.i64_in _ (by omega)
  have e3 : IntKind.i64.wrap (((p : Int) + 1) * 116) = ((p : Int) + 1) * 116 := IntWalk.i64_in _ (by omega)
  go_enter Try.func12, Try.ntmps12
  go_wp2_with fail
  refine KN.out.mono ?_
  rintro e w1 ⟨rfl, hb1⟩
  have O1 := Lib.hid hb1
  clear hb1 KN
  go_wp2_with fail
  · rw [show n - p * 116 = m from by have := HM.out; omega]
    go_loopw [6, 29] (fun bv iv wr => ∃ i : Nat, i ≤ m ∧ iv = .int .i64 i ∧ Slc wr 5 1 bv (2 * i) (bvs (partF ((segF l p).take i))) ∧ Hid (∀ x ∈ (segF l p).take i, x ≤ 1023) ∧ Below w.heap.size w wr ∧ Hid (∀ g ∈ ownB bv, w.heap.size ≤ g)) (fun _ iv _ => m - (intOf iv).toNat)
    case atStart => exact ⟨0, Nat.zero_le _, rfl, Slc.nil _ _ _, Lib.hid (by simp), O1.out, Lib.hid (by simp [ownB])⟩
    case round =>
      obtain ⟨i, hi, rfl, S, GD, O, F⟩ := hrel
      by_cases h' : i < m
      · obtain ⟨x, ck, ht, hp2, hmem⟩ := part_step (HI.out.below O) hm1 hm2 h'
        have OO := Lib.hid O
        have HT := Lib.hid ht
        have HP := Lib.hid hp2
        have HX := Lib.hid hmem
        clear O ht hp2 hmem
        have hiI : (i : Int) < (m : Int) := by omega
        by_cases hx : 1023 < x
        · go_wp2_with fail
          go_ret2
          exact ⟨.inl ⟨⟨x, HX.out, hx⟩, rfl⟩, OO.out⟩
        · obtain ⟨BA, bc, rfl⟩ := slc_val S
          have KT := Lib.hid (two_any _ (2 * i) _ S (num1 x) (by unfold num1; omega) (by omega))
          have G2 := Lib.hid (show ∀ y ∈ (segF l p).take (i + 1), y ≤ 1023 from by
            rw [HT.out]; intro y hy
            rcases List.mem_append.1 hy with hy | hy
            · exact GD.out y hy
            · simp at hy; omega)
          clear S
          by_cases hneg : x < -1
          · rw [show ((num1 x : Nat) : Int) = 0 from by unfold num1; omega] at KT
            go_wp2_with fail
            refine KT.out.mono ?_
            rintro e w2 ⟨⟨v2, rfl, S2, fr⟩, ow⟩
            rw [← HP.out] at S2
            have S2 := Lib.hid S2
            have O2 := Lib.hid (OO.out.trans (ow.below_of OO.out.size F.out))
            have F2 := Lib.hid (show ∀ g ∈ ownB v2, w.heap.size ≤ g from fun g hg => (fr g hg).elim (F.out g) (fun h => Nat.le_trans OO.out.size h))
            clear fr ow
            go_wp2_with fail
            go_roundw
            case rel => exact ⟨i + 1, by omega, by go_num, S2.out, G2, O2.out, F2⟩
            case measure => simp [intOf]; omega
          · rw [show ((num1 x : Nat) : Int) = x + 1 from by unfold num1; omega] at KT
            go_wp2_with fail
            refine KT.out.mono ?_
            rintro e w2 ⟨⟨v2, rfl, S2, fr⟩, ow⟩
            rw [← HP.out] at S2
            have S2 := Lib.hid S2
            have O2 := Lib.hid (OO.out.trans (ow.below_of OO.out.size F.out))
            have F2 := Lib.hid (show ∀ g ∈ ownB v2, w.heap.size ≤ g from fun g hg => (fr g hg).elim (F.out g) (fun h => Nat.le_trans OO.out.size h))
            clear fr ow
            go_wp2_with fail
            go_roundw
            case rel => exact ⟨i + 1, by omega, by go_num, S2.out, G2, O2.out, F2⟩
            case measure => simp [intOf]; omega
      · obtain rfl : i = m := by omega
        have hseg : (segF l p).take i = segF l p := List.take_of_length_le (by rw [segF_length, HL.out]; have := HM.out; omega)
        rw [hseg] at S
        have G2 := Lib.hid (show ∀ y ∈ segF l p, y ≤ 1023 from by have := GD.out; rwa [hseg] at this)
        obtain ⟨g, cap, rest, rfl, B, hc, _⟩ := S.form (by have := HM.out; omega) (by omega)
        have ST := Lib.hid (run_string_of (P := Try.prog) wr 44 9 5 Try.underlying44 Try.underlying5 Try.underlying9 ⟨g, 0, none⟩ (2 * i) cap (partF (segF l p)) (by have := S.1; simpa using this) (cells_at B 0 _ (by intro j u hu; rw [Nat.zero_add]; exact List.getElem?_append_left (List.getElem?_eq_some_iff.1 hu).1 ▸ hu)))
        have OO := Lib.hid O
        clear O S B hseg
        go_wp2_with fail
        rw [ST.out]
        go_wp2_with fail
        go_ret2
        exact ⟨.inr ⟨G2.out, rfl⟩, OO.out⟩
  · rw [show ((((p : Int) + 1) * 116).toNat - p * 116) = m from by have := HM.out; omega]
    go_loopw [6, 29] (fun bv iv wr => ∃ i : Nat, i ≤ m ∧ iv = .int .i64 i ∧ Slc wr 5 1 bv (2 * i) (bvs (partF ((segF l p).take i))) ∧ Hid (∀ x ∈ (segF l p).take i, x ≤ 1023) ∧ Below w.heap.size w wr ∧ Hid (∀ g ∈ ownB bv, w.heap.size ≤ g)) (fun _ iv _ => m - (intOf iv).toNat)
    case atStart => exact ⟨0, Nat.zero_le _, rfl, Slc.nil _ _ _, Lib.hid (by simp), O1.out, Lib.hid (by simp [ownB])⟩
    case round =>
      obtain ⟨i, hi, rfl, S, GD, O, F⟩ := hrel
      by_cases h' : i < m
      · obtain ⟨x, ck, ht, hp2, hmem⟩ := part_step (HI.out.below O) hm1 hm2 h'
        have OO := Lib.hid O
        have HT := Lib.hid ht
        have HP := Lib.hid hp2
        have HX := Lib.hid hmem
        clear O ht hp2 hmem
        have hiI : (i : Int) < (m : Int) := by omega
        by_cases hx : 1023 < x
        · go_wp2_with fail
          go_ret2
          exact ⟨.inl ⟨⟨x, HX.out, hx⟩, rfl⟩, OO.out⟩
        · obtain ⟨BA, bc, rfl⟩ := slc_val S
          have KT := Lib.hid (two_any _ (2 * i) _ S (num1 x) (by unfold num1; omega) (by omega))
          have G2 := Lib.hid (show ∀ y ∈ (segF l p).take (i + 1), y ≤ 1023 from by
            rw [HT.out]; intro y hy
            rcases List.mem_append.1 hy with hy | hy
            · exact GD.out y hy
            · simp at hy; omega)
          clear S
          by_cases hneg : x < -1
          · rw [show ((num1 x : Nat) : Int) = 0 from by unfold num1; omega] at KT
            go_wp2_with fail
            refine KT.out.mono ?_
            rintro e w2 ⟨⟨v2, rfl, S2, fr⟩, ow⟩
            rw [← HP.out] at S2
            have S2 := Lib.hid S2
            have O2 := Lib.hid (OO.out.trans (ow.below_of OO.out.size F.out))
            have F2 := Lib.hid (show ∀ g ∈ ownB v2, w.heap.size ≤ g from fun g hg => (fr g hg).elim (F.out g) (fun h => Nat.le_trans OO.out.size h))
            clear fr ow
            go_wp2_with fail
            go_roundw
            case rel => exact ⟨i + 1, by omega, by go_num, S2.out, G2, O2.out, F2⟩
            case measure => simp [intOf]; omega
          · rw [show ((num1 x : Nat) : Int) = x + 1 from by unfold num1; omega] at KT
            go_wp2_with fail
            refine KT.out.mono ?_
            rintro e w2 ⟨⟨v2, rfl, S2, fr⟩, ow⟩
            rw [← HP.out] at S2
            have S2 := Lib.hid S2
            have O2 := Lib.hid (OO.out.trans (ow.below_of OO.out.size F.out))
            have F2 := Lib.hid (show ∀ g ∈ ownB v2, w.heap.size ≤ g from fun g hg => (fr g hg).elim (F.out g) (fun h => Nat.le_trans OO.out.size h))
            clear fr ow
            go_wp2_with fail
            go_roundw
            case rel => exact ⟨i + 1, by omega, by go_num, S2.out, G2, O2.out, F2⟩
            case measure => simp [intOf]; omega
      · obtain rfl : i = m := by omega
        have hseg : (segF l p).take i = segF l p := List.take_of_length_le (by rw [segF_length, HL.out]; have := HM.out; omega)
        rw [hseg] at S
        have G2 := Lib.hid (show ∀ y ∈ segF l p, y ≤ 1023 from by have := GD.out; rwa [hseg] at this)
        obtain ⟨g, cap, rest, rfl, B, hc, _⟩ := S.form (by have := HM.out; omega) (by omega)
        have ST := Lib.hid (run_string_of (P := Try.prog) wr 44 9 5 Try.underlying44 Try.underlying5 Try.underlying9 ⟨g, 0, none⟩ (2 * i) cap (partF (segF l p)) (by have := S.1; simpa using this) (cells_at B 0 _ (by intro j u hu; rw [Nat.zero_add]; exact List.getElem?_append_left (List.getElem?_eq_some_iff.1 hu).1 ▸ hu)))
        have OO := Lib.hid O
        clear O S B hseg
        go_wp2_with fail
        rw [ST.out]
        go_wp2_with fail
        go_ret2
        exact ⟨.inr ⟨G2.out, rfl⟩, OO.out⟩
end Go.Proofs.Ytemcamhkacaoiaa.Rt
