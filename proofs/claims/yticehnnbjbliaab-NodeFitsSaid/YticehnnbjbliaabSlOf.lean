/- slots by its contracts: Of. -/
import Derived.Test.YticehnnbjbliaabSlDo2
namespace Go.Proofs.Yticehnnbjbliaab.Sl
open Go.RowKit
attribute [local go_sem ↓] exec_app

theorem roomR_take (l : List (List UInt8)) (k : Nat) (h : k < l.length) : roomR (l.take (k + 1)) = roomR (l.take k) - 4 - (l[k].length : Int) := by
  unfold roomR
  rw [List.take_succ_eq_append_getElem h, List.map_append, List.sum_append]
  simp; omega
theorem roomR_mono (l : List (List UInt8)) (k : Nat) : roomR l ≤ roomR (l.take k) := by
  unfold roomR
  have : ((l.take k).map fun r => 4 + r.length).sum ≤ (l.map fun r => 4 + r.length).sum := by
    rw [List.map_take]
    exact sum_take_le _ k
  omega
/-- what Of tells -/
def OfTold (l : List (List UInt8)) (w : World) (e : Ending) (w' : World) : Prop :=
  ((0 ≤ roomR l ∧ ∃ b : ByteArray, e = .returned (.tuple #[.string b, .int .i64 0]) ∧ Sound b.data.toList ∧ recs b.data.toList = l) ∨ (roomR l < 0 ∧ e = .returned (.tuple #[.string ⟨#[]⟩, .int .i64 11]))) ∧ Below w.heap.size w w'
set_option maxRecDepth 100000 in
set_option maxHeartbeats 4000000 in
theorem of_any {w : World} {v : Value} {l : List (List UInt8)} (S : Slc w 9 1 v l.length (strs l)) (hl : l.length ≤ 1000000) (hm : ∀ r ∈ l, r.length ≤ 1000000) :
    Calls Try.prog 28 #[v] w (OfTold l w) := by
  obtain ⟨A, c, rfl⟩ := slc_val S
  have SS := Lib.hid S
  obtain ⟨s0, r0, -, -⟩ := empty_sound
  obtain ⟨T0, h0⟩ := ba_of emptyF
  have KE := Lib.hid (empty_any w)
  rw [← h0, ba_eq] at KE
  rw [← h0] at s0 r0
  have HS := Lib.hid (show Sound T0.data.toList ∧ recs T0.data.toList = l.take 0 from ⟨s0, r0⟩)
  have HM := Lib.hid (show ∀ k (h : k < l.length), l[k].length ≤ 1000000 from fun k h => hm _ (List.getElem_mem h))
  have HR := Lib.hid (fun k h => roomR_take l k h)
  have HMO := Lib.hid (fun k => roomR_mono l k)
  have HAL := Lib.hid (show l.take l.length = l from List.take_length)
  have HZ := Lib.hid (show 0 ≤ roomR (l.take 0) from by rw [List.take_zero]; decide)
  clear S s0 r0 h0 hm
  go_enter Try.func28, Try.ntmps28
  go_wp2_with fail
  refine KE.out.mono ?_
  rintro e w1 ⟨rfl, hb1⟩
  have S1 := Lib.hid (SS.out.below hb1)
  have O1 := Lib.hid hb1
  clear hb1 SS
  go_wp2_with fail
  go_loopw [4, 12] (fun bv iv wr => ∃ (k : Nat) (b : ByteArray), k ≤ l.length ∧ bv = .string b ∧ iv = .int .i64 k ∧ Hid (Sound b.data.toList ∧ recs b.data.toList = l.take k) ∧ Hid (0 ≤ roomR (l.take k)) ∧ Slc wr 9 1 (.slice A l.length c) l.length (strs l) ∧ Below w.heap.size w wr) (fun _ iv _ => l.length - (intOf iv).toNat)
  case atStart => exact ⟨0, T0, Nat.zero_le _, rfl, rfl, HS, HZ, S1.out, O1.out⟩
  case round =>
    obtain ⟨k, b, hk, rfl, rfl, HB, HP, S, O⟩ := hrel
    have OO := Lib.hid O
    have SS := Lib.hid S
    clear S O
    by_cases h : k < l.length
    · obtain ⟨g, rfl, ck⟩ := str_cell SS.out k h
      have hrk := HM.out k h
      have HRk := Lib.hid (HR.out k h)
      have HMk := Lib.hid (HMO.out (k + 1))
      obtain ⟨R, hR⟩ := ba_of l[k]
      have HST := Lib.hid (show l.take (k + 1) = l.take k ++ [R.data.toList] from by rw [List.take_succ_eq_append_getElem h, hR])
      rw [← hR] at ck hrk HRk
      rw [ba_eq] at ck
      have hRl : R.data.toList.length = R.size := by simp
      rw [hRl] at hrk HRk
      have hs := HB.out.1
      have hsz : b.size = 232 := by have := hs.len; simpa using this
      have KI := Lib.hid (fun w' => insert_any b R k w' (by omega) (by omega))
      have hlen : (recs b.data.toList).length = k := by rw [HB.out.2, List.length_take]; omega
      have hki : (k : Int) < (l.length : Int) := by omega
      by_cases hf : 0 ≤ roomR (l.take (k + 1))
      · obtain ⟨i1, s1, r1⟩ := insG_ok hs k R.data.toList (by rw [HB.out.2, hRl]; have := HRk.out; omega) (by omega)
        obtain ⟨T, hT⟩ := ba_of (insF b.data.toList k R.data.toList)
        rw [← hT] at i1 s1 r1
        rw [i1, ba_eq] at KI
        have HB2 := Lib.hid (show Sound T.data.toList ∧ recs T.data.toList = l.take (k + 1) from ⟨s1, by
          rw [r1, HST.out, HB.out.2]
          rw [List.take_of_length_le (by rw [List.length_take]; omega), List.drop_eq_nil_of_le (by rw [List.length_take]; omega)]⟩)
        have HF := Lib.hid hf
        clear i1 s1 r1 hT hs hsz hlen hf hR hRl
        go_wp2_with fail
        refine (KI.out _).mono ?_
        rintro e w2 ⟨rfl, hb2⟩
        have S2 := Lib.hid (SS.out.below hb2)
        have O2 := Lib.hid (bstep OO.out hb2)
        clear hb2
        go_wp2_with fail
        go_roundw
        case rel => exact ⟨k + 1, T, by omega, rfl, by go_num, HB2, HF, S2.out, O2.out⟩
        case measure => simp [intOf]; omega
      · have i1 := insG_full' hs k R.data.toList (by rw [HB.out.2, hRl]; have := HRk.out; omega) (by omega)
        rw [i1] at KI
        have HF := Lib.hid (show roomR l < 0 from by have := HMk.out; omega)
        clear i1 hs hsz hlen hf hR hRl
        go_wp2_with fail
        refine (KI.out _).mono ?_
        rintro e w2 ⟨rfl, hb2⟩
        have O2 := Lib.hid (bstep OO.out hb2)
        clear hb2
        go_wp2_with fail
        go_ret2
        exact ⟨.inr ⟨HF.out, rfl⟩, O2.out⟩
    · have hkn := Lib.hid (show k = l.length by omega)
      go_wp2_with fail
      go_ret2
      refine ⟨.inl ⟨?_, b, rfl, HB.out.1, ?_⟩, OO.out⟩
      · have := HP.out
        rw [hkn.out, HAL.out] at this
        exact this
      · rw [HB.out.2, hkn.out, HAL.out]
/-- a list of texts that came in, each cut -/
def cutTo (ss : Nat → ByteArray) (k : Nat) : List (List UInt8) := (List.range k).map fun i => (ss i).data.toList.take 300
theorem cutTo_succ (ss : Nat → ByteArray) (k : Nat) : cutTo ss (k + 1) = cutTo ss k ++ [(ss k).data.toList.take 300] := by
  unfold cutTo
  rw [List.range_succ, List.map_append]; rfl
theorem cutTo_length (ss : Nat → ByteArray) (k : Nat) : (cutTo ss k).length = k := by simp [cutTo]
theorem cutTo_small (ss : Nat → ByteArray) (k : Nat) : ∀ r ∈ cutTo ss k, r.length ≤ 300 := by
  intro r hr
  simp only [cutTo, List.mem_map] at hr
  obtain ⟨i, _, rfl⟩ := hr
  simp; omega
/-- a []string that came in, with its room -/
theorem strs_view2 {H : Type} {enc : TypeId × Value → H} {P : Program} {W : World} {base : Nat} {t e : TypeId} {v : Value} {d : DataW H} {ps : List MemPlace} (ht : P.underlying t = some (.slice e)) (he : P.underlying e = some .string) (hc : P.cellsOf e = 1)
    (hok : Value.okWide P W .any base t v) (h : DataW.Trod enc P W 0 (fun _ => true) true t v d ps) :
    ∃ (A : Option Addr) (n c : Nat) (ss : Nat → ByteArray), v = .slice A n c ∧ n ≤ maxLen ∧ n ≤ c ∧ ∀ k, k < n → ∃ ad, A = some ad ∧ W.cell? (ad.add k) = some (.string (ss k)) ∧ (ss k).size ≤ maxLen := by
  obtain ⟨a0, len, cap, rfl⟩ := Go.WideShapes.okWide_slice ht hok
  obtain ⟨fuel, hf⟩ := h
  rcases Go.ChangeShapes.open_strings ht he hc hf with ⟨hcs, _⟩ | ⟨a, len', cap', ss, hcs, _, hl, hm, hz, _, hcell, hws⟩
  · simp [Value.cells] at hcs
    obtain ⟨rfl, rfl, rfl⟩ := hcs
    exact ⟨none, 0, 0, fun _ => ByteArray.empty, rfl, Nat.zero_le _, Nat.le_refl _, fun k hk => absurd hk (by omega)⟩
  · simp [Value.cells] at hcs
    obtain ⟨rfl, rfl, rfl⟩ := hcs
    simp at hz
    refine ⟨some a, len, cap, fun k => ss.getD k ByteArray.empty, rfl, by omega, by omega, fun k hk => ⟨a, rfl, hcell k (by omega), ?_⟩⟩
    have hk2 : k < ss.length := by omega
    have : ss.getD k ByteArray.empty = ss[k] := by simp [List.getD, List.getElem?_eq_getElem hk2]
    show (ss.getD k ByteArray.empty).size ≤ maxLen
    rw [this]
    exact hws _ (List.getElem_mem hk2)
end Go.Proofs.Yticehnnbjbliaab.Sl
