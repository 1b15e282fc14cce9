/- disk by its contracts: Of. -/
import Derived.Test.YtbelcgjbhpjnpaaGreatDa
set_option linter.all false
set_option linter.unusedVariables false
set_option linter.unusedSimpArgs false
namespace Go.Proofs.YtbelcgjbhpjnpaaGreat.Dk
open Go.RowKit
attribute [local go_sem ↓] exec_ld exec_st exec_zero

/-- a disk of an image, so many sectors of it laid -/
def imgTo (s : List UInt8) (n k : Nat) : D := { D.zero n with now := s.take (64 * k) ++ List.replicate (64 * n - (s.take (64 * k)).length) 0 }
def imgF (s : List UInt8) (n : Nat) : D := { D.zero n with now := s ++ List.replicate (64 * n - s.length) 0 }
def sectorsF (s : List UInt8) : Nat := (s.length + 63) / 64
theorem imgTo_zero (s : List UInt8) (n : Nat) : imgTo s n 0 = D.zero n := by simp [imgTo, D.zero]
theorem imgTo_all (s : List UInt8) : imgTo s (sectorsF s) (sectorsF s) = imgF s (sectorsF s) := by
 unfold imgTo imgF
 rw [List.take_of_length_le (by unfold sectorsF; omega)]
theorem imgTo_step (s : List UInt8) (k : Nat) (hk : k < sectorsF s) : lay (imgTo s (sectorsF s) k).now (64 * k) ((s.drop (64 * k)).take 64) = (imgTo s (sectorsF s) (k + 1)).now := by
 unfold sectorsF at *
 have e1 : (s.take (64 * k)).length = 64 * k := by simp; omega
 have e2 : s.take (64 * (k + 1)) = s.take (64 * k) ++ (s.drop (64 * k)).take 64 := by rw [show 64 * (k + 1) = 64 * k + 64 by omega, List.take_add]
 show lay (s.take (64 * k) ++ List.replicate (64 * _ - (s.take (64 * k)).length) 0) _ _ = s.take (64 * (k + 1)) ++ List.replicate (64 * _ - (s.take (64 * (k + 1))).length) 0
 rw [e2]
 generalize hA : s.take (64 * k) = A at *
 generalize (s.drop (64 * k)).take 64 = c at *
 unfold lay
 rw [List.take_append_of_le_length (by omega), List.take_of_length_le (by omega), List.length_append, e1, ← e1, List.drop_append, List.drop_of_length_le (by omega), List.nil_append, List.drop_replicate, e1]
 congr 2
 omega
theorem imgTo_len (s : List UInt8) (k : Nat) : (imgTo s (sectorsF s) k).now.length = 64 * sectorsF s := by
 unfold sectorsF imgTo; simp; omega
theorem img_copy {w : World} {L : Loc} {s : ByteArray} {k : Nat} (h : DiskAt w L (sectorsF s.data.toList) (imgTo s.data.toList (sectorsF s.data.toList) k)) (hk : k < sectorsF s.data.toList) (t : ByteArray) (ht : t.data.toList = s.data.toList.drop (64 * k)) :
  ∃ w2, (Builtin.copy_ #[141, 9] 3 #[.slice (some ⟨L.gN, k * 64, none⟩) 64 64, .string t]).run Tryz.prog w = .ok (goInt (Nat.min t.size 64)) w2 ∧ DiskAt w2 L (sectorsF s.data.toList) (imgTo s.data.toList (sectorsF s.data.toList) (k + 1)) ∧ Only [L.gN] w w2 := by
 have hlen := imgTo_len s.data.toList k
 obtain ⟨w2, e2, B2, o⟩ := copy_string (P := Tryz.prog) h.hN 141 9 3 5 (k * 64) 64 64 t (Nat.min t.size 64) Tryz.underlying141 size_u8 rfl (by simp only [bvs, List.length_map, hlen]; have hm : Nat.min t.size 64 ≤ 64 := Nat.min_le_right _ _; omega)
 have e : t.data.toList.take (Nat.min t.size 64) = (s.data.toList.drop (64 * k)).take 64 := by
  rw [← ht]
  rcases Nat.le_total t.size 64 with h | h
  ·rw [show Nat.min t.size 64 = t.size from Nat.min_eq_left h, List.take_of_length_le (by simp), List.take_of_length_le (by simpa using h)]
  ·rw [show Nat.min t.size 64 = 64 from Nat.min_eq_right h]
 rw [e, bvs_lay, show k * 64 = 64 * k from Nat.mul_comm _ _, imgTo_step _ _ hk] at B2
 exact ⟨w2, e2, ⟨h.hb.only o (by simp; exact h.bN), B2, h.hO.only o (by simp; exact fun e => h.ne e.symm), h.hL.only o (by simp; exact h.LN), h.ne, ⟨imgTo_len _ _, h.ok.old, h.ok.loose, h.ok.small, h.ok.armed, h.ok.calls⟩⟩, o⟩
theorem of_long (s : ByteArray) (w : World) (h : 262144 < s.size) :
  Calls Tryz.prog 38 #[.string s] w fun e w' => e = .returned (.tuple #[.pointer none, .int .i64 2]) ∧ w = w' := by
 have h' : ((s.size : Int) > 262144) := by omega
 clear h
 go_enter Tryz.func38, Tryz.ntmps38
 go_wp2_with fail
 go_ret2
 exact ⟨rfl, rfl⟩
set_option maxRecDepth 100000 in
theorem of_none (s : ByteArray) (w : World) (h : s.size = 0) :
  Calls Tryz.prog 38 #[.string s] w fun e w' => e = .returned (.tuple #[.pointer none, .int .i64 2]) ∧ w = w' := by
 have K := Lib.hid (new_no 0 w (by omega))
 have h' : ((s.size : Int) = 0) := by omega
 clear h
 go_enter Tryz.func38, Tryz.ntmps38
 go_wp2_with fail
 refine K.out.mono ?_
 rintro e w1 ⟨rfl, rfl⟩
 go_wp2_with fail
 go_ret2
 exact ⟨rfl, rfl⟩
set_option maxRecDepth 100000 in
set_option maxHeartbeats 4000000 in
theorem of_some (s : ByteArray) (w : World) (h0 : 0 < s.size) (h1 : s.size ≤ 262144) :
  Calls Tryz.prog 38 #[.string s] w fun e w' => ∃ L, e = .returned (.tuple #[dp L.b, .int .i64 0]) ∧ DiskAt w' L (sectorsF s.data.toList) (imgF s.data.toList (sectorsF s.data.toList)) ∧ Below w.heap.size w w' ∧ (∀ x ∈ L.fp, w.heap.size ≤ x) := by
 have hl : s.data.toList.length = s.size := by simp
 have hs : ((s.size : Int) + 64 - 1).tdiv 64 = (sectorsF s.data.toList : Int) := by unfold sectorsF; rw [hl, show (s.size : Int) + 64 - 1 = ((s.size + 63 : Nat) : Int) by omega]; rfl
 have hn1 : 1 ≤ sectorsF s.data.toList := by unfold sectorsF; omega
 have hn2 : sectorsF s.data.toList ≤ 4096 := by unfold sectorsF; omega
 have hn3 : 64 * (sectorsF s.data.toList - 1) < s.size := by unfold sectorsF; omega
 have K := Lib.hid (new_yes (sectorsF s.data.toList) w hn1 hn2)
 have HALL := Lib.hid (imgTo_all s.data.toList)
 have HZ := Lib.hid (imgTo_zero s.data.toList (sectorsF s.data.toList))
 have HL := Lib.hid hl
 have HCP := Lib.hid (@img_copy (s := s))
 clear hl
 generalize hN : sectorsF s.data.toList = N at *
 clear hN
 unfold dp at *
 go_enter Tryz.func38, Tryz.ntmps38
 go_wp2_with fail
 refine K.out.mono ?_
 rintro e w1 ⟨L, rfl, D1, O1, fr⟩
 rw [← HZ.out] at D1
 have FR := Lib.hid fr
 have OO := Lib.hid O1
 have f0 := D1.f0
 clear fr O1
 go_wp2_with fail
 go_loopw [6, 27] (fun _ iv wr => ∃ k : Nat, k ≤ N ∧ iv = .int .i64 k ∧ DiskAt wr L N (imgTo s.data.toList N k) ∧ Below w.heap.size w wr) (fun _ iv _ => N - (intOf iv).toNat)
 case atStart => exact ⟨0, by omega, rfl, D1, OO.out⟩
 case round =>
  obtain ⟨k, hk, rfl, D2, O2⟩ := hrel
  clear D1 f0
  by_cases h : k < N
  ·have f0 := D2.f0
   obtain ⟨w2, ec, D3, o2⟩ := HCP.out _ _ D2.drew h (s.extract (k * 64) s.size) (by rw [ByteArray.data_extract, Array.toList_extract, List.extract_eq_take_drop, List.take_of_length_le (by simp), Nat.mul_comm])
   have hks : k * 64 < s.size := by omega
   have O3 := Lib.hid ((bstep O2.drew (Below.refl _ _)).trans (o2.below_of O2.drew.size (by simp; exact FR.out _ (by simp [Loc.fp]))))
   have D3 := Lib.hid D3
   clear o2 D2 O2
   go_wp2_with fail
   go_region
   all_goals go_wp2_with fail
   all_goals go_roundw
   case rel => exact ⟨k + 1, by omega, by go_num, D3.out, O3.out⟩
   case measure => simp [intOf]; omega
  ·have hkN : k = N := by omega
   subst hkN
   rw [HALL.out] at D2
   go_wp2_with fail
   go_ret2
   exact ⟨L, rfl, D2, O2, FR.out⟩
theorem img_crash (C : Cr) (s : List UInt8) (n : Nat) : (imgF s n).crashF C n = imgF s n := by
 have h : ∀ k, D.crashTo C (imgF s n) k = (imgF s n, 0) := by
  intro k
  induction k with
  | zero => rfl
  | succ k ih =>
   rw [D.crashTo, ih, if_neg]
   show ¬ (List.replicate n false).getD k false = true
   simp only [List.getD, List.getElem?_replicate]
   split <;> simp
 unfold D.crashF
 rw [h]; rfl
theorem take_sec (F : List UInt8) (i : Nat) : F.take (64 * i) ++ sec F i = F.take (64 * (i + 1)) := by
 rw [show 64 * (i + 1) = 64 * i + 64 by omega, List.take_add]; rfl
theorem img_read (s : List UInt8) (n i : Nat) (hi : i < n) : (imgF s n).readF n i = (sec (imgF s n).now i, 0) := by
 have ha : (imgF s n).atF n i = 0 := by
  unfold D.atF
  rw [if_neg (by simp [imgF, D.zero]), if_pos (by omega)]
 unfold D.readF
 rw [if_pos ha]; rfl
end Go.Proofs.YtbelcgjbhpjnpaaGreat.Dk
