/- slots by its contracts: two, put, Empty, list. -/
import Derived.Test.YticehnnbjbliaabSlMath2
import Derived.Deep.QuietTactic
import Derived.BigQuiet
import Derived.IntWalk
import Derived.Test.YticehnnbjbliaabKit2
namespace Go.Proofs.Yticehnnbjbliaab.Sl
open Go.RowKit

theorem or8 (a b : Nat) (ha : a < 256) (hb : b < 256) : bits .or .i64 ((a : Int) * 256) (b : Int) = ((a * 256 + b : Nat) : Int) := by
  rw [bits_join .i64 32 (by decide) (fun n h0 h1 => IntWalk.i64_in n (by omega)) 8 _ _ (by omega) (by omega) (by omega) (by omega) (by omega) (by omega)]
  omega
theorem getD_size (s : ByteArray) (k : Nat) (h : k < s.size) : s.data.toList.getD k 0 = s[k] := by
  have : k < s.data.toList.length := by simpa using h
  simp [List.getD, List.getElem?_eq_getElem this]; rfl
set_option maxHeartbeats 400000 in
theorem two_any (s : ByteArray) (i : Int) (w : World) (h0 : 0 ≤ i) (h : i + 1 < s.size) (hs : s.size ≤ 1000000) :
    Calls Try.prog 47 #[.string s, .int .i64 i] w fun e w' => e = .returned (.int .i64 (at2 s.data.toList i.toNat : Nat)) ∧ Below w.heap.size w w' := by
  obtain ⟨k, rfl⟩ := Int.eq_ofNat_of_zero_le h0
  rw [Int.toNat_natCast]
  have hk : k < s.size := by omega
  have h : k + 1 < s.size := by omega
  have b0 := s[k].toNat_lt
  have b1 := s[k + 1].toNat_lt
  have HV := Lib.hid (show bits .or .i64 ((s[k].toNat : Int) * 256) (s[k + 1].toNat : Int) = ((at2 s.data.toList k : Nat) : Int) from by
    rw [or8 _ _ (by omega) (by omega)]; unfold at2; rw [getD_size _ _ hk, getD_size _ _ h])
  have e1 : IntKind.i64.wrap ((k : Int) + 1) = (k : Int) + 1 := IntWalk.i64_in _ (by omega)
  have e2 : (0 : Int) ≤ (k : Int) + 1 := by omega
  have e3 : ((k : Int) + 1).toNat = k + 1 := by omega
  have e7 : (k : Int) + 1 < (s.size : Int) := by omega
  have e8 : (k : Int) < (s.size : Int) := by omega
  have e4 : IntKind.i64.wrap (s[k].toNat : Int) = (s[k].toNat : Int) := IntWalk.i64_in _ (by omega)
  have e5 : IntKind.i64.wrap ((s[k].toNat : Int) * 256) = (s[k].toNat : Int) * 256 := IntWalk.i64_in _ (by omega)
  have e6 : IntKind.i64.wrap (s[k + 1].toNat : Int) = (s[k + 1].toNat : Int) := IntWalk.i64_in _ (by omega)
  go_enter Try.func47, Try.ntmps47
  go_wp2
  go_quiet (fail)
  rw [HV.out]
  go_wp2
  go_ret
  exact ⟨rfl, Below_drewN (Below.refl _ _) _⟩
/-- cells of slots -/
def sc (l : List Slot) : List Value := l.flatMap fun x => [.int .i64 (x.1 : Int), .int .i64 (x.2 : Int)]
theorem sc_length (l : List Slot) : (sc l).length = 2 * l.length := by
  induction l with
  | nil => rfl
  | cons x l ih => simp only [sc, List.flatMap_cons] at ih ⊢; simp [ih]; omega
theorem sc_append (l m : List Slot) : sc (l ++ m) = sc l ++ sc m := by simp [sc]
theorem sc_get (l : List Slot) (i : Nat) (hi : i < l.length) : (sc l)[i * 2]? = some (.int .i64 (l[i].1 : Int)) ∧ (sc l)[i * 2 + 1]? = some (.int .i64 (l[i].2 : Int)) := by
  induction l generalizing i with
  | nil => simp at hi
  | cons x l ih =>
    have e : sc (x :: l) = .int .i64 (x.1 : Int) :: .int .i64 (x.2 : Int) :: sc l := rfl
    rw [e]
    cases i with
    | zero => exact ⟨rfl, rfl⟩
    | succ i =>
      have := ih i (by simpa using hi)
      rw [show (i + 1) * 2 = i * 2 + 1 + 1 by omega, show i * 2 + 1 + 1 + 1 = (i * 2 + 1) + 1 + 1 by omega]
      simpa using this
theorem sc_one (l : List Slot) : ∀ v ∈ sc l, v.oneCell' = true := by
  intro v hv
  simp only [sc, List.mem_flatMap] at hv
  obtain ⟨x, _, h⟩ := hv
  simp at h
  rcases h with rfl | rfl <;> rfl
theorem info_slot : (Try.prog.info? 81).map (fun i => (i.zero, i.size, i.bytes)) = some (some (.agg #[.int .i64 0, .int .i64 0]), 2, 16) := by kernel_rfl
theorem slots_take (b : List UInt8) (k : Nat) (h : k < at2 b 0) : (slots b).take (k + 1) = (slots b).take k ++ [slot b k] := by
  rw [List.take_succ_eq_append_getElem (by rw [slots_length]; exact h)]
  simp [slots]

attribute [local go_sem ↓] exec_app
set_option maxRecDepth 100000 in
set_option maxHeartbeats 2000000 in
theorem list_any (s : ByteArray) (w : World) (h4 : 4 + 4 * at2 s.data.toList 0 ≤ s.size) (hs : s.size ≤ 1000000) :
    Calls Try.prog 42 #[.string s] w fun e w' => ∃ v, e = .returned v ∧ Slc w' 81 2 v (at2 s.data.toList 0) (sc (slots s.data.toList)) ∧ Below w.heap.size w w' ∧ (∀ g ∈ ownB v, w.heap.size ≤ g) := by
  have hn := at2_lt s.data.toList 0
  have HL := Lib.hid (slots_length s.data.toList)
  go_enter Try.func42, Try.ntmps42
  go_wp2_with fail
  refine (two_any s 0 _ (by omega) (by omega) hs).mono ?_
  rintro e w1 ⟨rfl, hb1⟩
  rw [show (0 : Int).toNat = 0 from rfl]
  have HS := Lib.hid (show ∀ k, k < at2 s.data.toList 0 → (slots s.data.toList).take (k + 1) = (slots s.data.toList).take k ++ [slot s.data.toList k] from fun k hk => slots_take _ k hk)
  have HE := Lib.hid (show (slots s.data.toList).take (at2 s.data.toList 0) = slots s.data.toList from List.take_of_length_le (by rw [slots_length]; exact Nat.le_refl _))
  have HSl := Lib.hid (show ∀ k, slot s.data.toList k = (at2 s.data.toList (4 + 4 * k), at2 s.data.toList (6 + 4 * k)) from fun k => rfl)
  generalize hgn : at2 s.data.toList 0 = n at *
  have HN := Lib.hid hgn
  clear hgn
  go_wp2_with fail
  go_loopw [3, 4, 5, 8] (fun v _ _ i wr => ∃ k : Nat, k ≤ n ∧ i = .int .i64 k ∧ Slc wr 81 2 v k (sc ((slots s.data.toList).take k)) ∧ Below w.heap.size w wr ∧ Hid (∀ g ∈ ownB v, w.heap.size ≤ g)) (fun _ _ _ i _ => n - (intOf i).toNat)
  case atStart => exact ⟨0, Nat.zero_le _, rfl, by rw [List.take_zero]; exact Slc.nil _ _ _, hb1, Lib.hid (by simp [ownB])⟩
  case round =>
    obtain ⟨k, hk, rfl, S, O, F⟩ := hrel
    obtain ⟨A, c, rfl⟩ := slc_val S
    by_cases h : k < n
    · have hst := Lib.hid (HS.out k h)
      go_wp2_with fail
      refine (two_any s _ _ (by omega) (by omega) hs).mono ?_
      rintro e w2 ⟨rfl, hb2⟩
      have S2 := Lib.hid (S.below hb2)
      have O2 := Lib.hid (bstep O hb2)
      clear hb2 S O
      go_wp2_with fail
      refine (two_any s _ _ (by omega) (by omega) hs).mono ?_
      rintro e w3 ⟨rfl, hb3⟩
      have S3 := S2.out.below hb3
      have O3 := Lib.hid (bstep O2.out hb3)
      clear hb3 S2 O2
      rw [show (4 + 4 * (k : Int)).toNat = 4 + 4 * k by omega, show (4 + 4 * (k : Int) + 2).toNat = 6 + 4 * k by omega]
      obtain ⟨i0, hi, hz0, hz1, hz2⟩ := info_parts info_slot
      obtain ⟨v', w', ea, S', O', F'⟩ := append_slc (P := Try.prog) (S3.alloc (.cells #[.int .i64 (at2 s.data.toList (4 + 4 * k) : Nat), .int .i64 (at2 s.data.toList (6 + 4 * k) : Nat)] 81)) 78 78 i0 (.agg #[.int .i64 0, .int .i64 0]) 16 Try.underlying78 hi hz0 hz1 hz2 rfl (by omega)
        ⟨w3.heap.size, 0, none⟩ 1 1 [.int .i64 (at2 s.data.toList (4 + 4 * k) : Nat), .int .i64 (at2 s.data.toList (6 + 4 * k) : Nat)] rfl (cells_at (l := [_, _]) (Blk.new _ _ _) 0 _ (by simp)) (by intro u hu; simp at hu; rcases hu with rfl | rfl <;> rfl) (by unfold maxLen; omega) (by omega)
      have e1 : sc ((slots s.data.toList).take k) ++ [.int .i64 (at2 s.data.toList (4 + 4 * k) : Nat), .int .i64 (at2 s.data.toList (6 + 4 * k) : Nat)] = sc ((slots s.data.toList).take (k + 1)) := by
        rw [hst.out, sc_append, HSl.out]; rfl
      rw [e1] at S'
      have EA := ea
      have F2 := Lib.hid (show ∀ g ∈ ownB v', w.heap.size ≤ g from fun g hg => (F' g hg).elim (F.out g) (fun h => Nat.le_trans O3.out.size (by simp at h; omega)))
      have O2 := Lib.hid (O3.out.trans ((((Only.refl (ownB (.slice A k c)) w3).alloc (.cells #[.int .i64 (at2 s.data.toList (4 + 4 * k) : Nat), .int .i64 (at2 s.data.toList (6 + 4 * k) : Nat)] 81)).trans O').below_of O3.out.size F.out))
      have S2 := Lib.hid S'
      clear S3 F' O' S' e1 hst hi hz0 hz1 hz2 ea
      change appRun _ _ _ _ _ _ = _ at EA
      obtain ⟨A2, c2, rfl⟩ := slc_val S2.out
      go_wp2_with fail
      go_roundw
      case rel => exact ⟨k + 1, by omega, by go_num, S2.out, O2.out, F2⟩
      case measure => simp [intOf]; omega
    · have hkn : k = n := by omega
      have H2 := Lib.hid hkn
      have SS := Lib.hid S
      clear hkn S
      go_wp2_with fail
      go_ret
      refine ⟨_, rfl, ?_, O, F.out⟩
      have := SS.out
      cases H2.out
      rw [HE.out] at this
      rw [HN.out]
      exact this
end Go.Proofs.Yticehnnbjbliaab.Sl
