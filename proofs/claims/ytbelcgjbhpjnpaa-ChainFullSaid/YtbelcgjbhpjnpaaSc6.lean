/- chain's laws: long; the document's pool made. -/
import Derived.Test.YtbelcgjbhpjnpaaSc5
namespace Go.Proofs.Ytbelcgjbhpjnpaa.Sh
open Go.RowKit Pk Dk Pg
attribute [local go_sem ↓] Go.wp_at_zero Go.wp_at_succ exec_app
def longL (s : List UInt8) (n : Nat) : List UInt8 := s ++ (List.range (n - s.length)).map UInt8.ofNat
set_option maxRecDepth 100000 in
set_option maxHeartbeats 2000000 in
theorem long_any (s : ByteArray) (n : Nat) (w : World) (hs : s.size ≤ 100000) (hn : n ≤ 100000) :
    Calls Try.prog 15 #[.string s, .int .i64 (n : Nat)] w fun e w' => e = .returned (.string ⟨(longL s.data.toList n).toArray⟩) ∧ Below w.heap.size w w' := by
  obtain ⟨cap, w1, e1, S1, hb1⟩ := bytes_of_string (P := Try.prog) w 9 65 5 s Try.underlying9 Try.underlying65 Try.underlying5 (by unfold maxLen; omega)
  have E1 := Lib.hid e1
  have hl : s.data.toList.length = s.size := by simp
  obtain ⟨R, hR⟩ : ∃ R, longL s.data.toList n = R := ⟨_, rfl⟩
  rw [hR]
  have HR := Lib.hid hR
  clear e1 hR
  go_enter Try.func15, Try.ntmps15
  go_wp2_with fail
  rw [E1.out]
  go_wp2_with fail
  go_loopw [5, 6] (fun bv iv wr => ∃ i : Nat, i ≤ n - s.size ∧ iv = .int .i64 i ∧ Slc wr 5 1 bv (s.size + i) (bvs (s.data.toList ++ (List.range i).map UInt8.ofNat)) ∧ Hid (Below w.heap.size w wr) ∧ Hid (∀ x ∈ ownB bv, w.heap.size ≤ x)) (fun _ iv _ => n - s.size - (intOf iv).toNat)
  case atStart => exact ⟨0, Nat.zero_le _, rfl, by simpa using S1, Lib.hid hb1, Lib.hid (by simp [ownB])⟩
  case round =>
    obtain ⟨i, hi, rfl, S, O, F⟩ := hrel
    obtain ⟨A, c, rfl⟩ := slc_val S
    by_cases h : s.size + i < n
    · obtain ⟨v', w2, ea, S2, ow, fr⟩ := append_one (P := Try.prog) S 65 65 (.int .u8 0) 1 Try.underlying65 Crc.info_u8 rfl (.int .u8 ((i : Int) % 256)) rfl (by unfold maxLen; omega) (by omega)
      obtain ⟨A2, c2, rfl⟩ := slc_val S2
      have el : bvs (s.data.toList ++ (List.range i).map UInt8.ofNat) ++ [.int .u8 ((i : Int) % 256)] = bvs (s.data.toList ++ (List.range (i + 1)).map UInt8.ofNat) := by
        rw [List.range_succ, List.map_append, ← List.append_assoc, bvs_append _ (List.map _ [i])]
        congr 1
      rw [el] at S2
      have H2 := Lib.hid (show Slc w2 5 1 (.slice A2 (s.size + i + 1) c2) (s.size + (i + 1)) (bvs (s.data.toList ++ (List.range (i + 1)).map UInt8.ofNat)) ∧ Below w.heap.size w w2 ∧ ∀ x ∈ ownB (.slice A2 (s.size + i + 1) c2), w.heap.size ≤ x from ⟨S2, O.out.trans (ow.below_of O.out.size F.out), fun x hx => (fr x hx).elim (F.out x) (fun h => Nat.le_trans O.out.size h)⟩)
      have EA := Lib.hid ea
      clear ea S2 ow fr S el
      go_wp2_with fail
      rw [EA.out]
      go_wp2_with fail
      go_roundw
      case rel => exact ⟨i + 1, by omega, by go_num, H2.out.1, Lib.hid H2.out.2.1, Lib.hid H2.out.2.2⟩
      case measure => simp [intOf]; omega
    · have hi2 : i = n - s.size := by omega
      have CV := Lib.hid (str_slc (P := Try.prog) S 65 9 Try.underlying65 Try.underlying5 Try.underlying9)
      have HR2 := HR.out
      unfold longL at HR2
      rw [hl, ← hi2] at HR2
      rw [HR2] at CV
      clear S HR2 hi2 hl
      go_wp2_with fail
      rw [CV.out]
      go_wp2_with fail
      go_ret
      exact ⟨by first | rfl | simp, O.out⟩
theorem info_rframe : (Try.prog.info? 92).map (fun i => (i.zero, i.size, i.bytes)) = some (some (.agg #[.int .i64 0, .string ⟨#[]⟩, .int .i64 0, .bool false, .bool false]), 5, 40) := by kernel_rfl
theorem append_rnil {w : World} {v : Value} {n : Nat} {l : List Fr} (h : Slc w 92 5 v n (frc l)) (hn : n ≤ 1000) :
    ∃ v' w', appRun Try.prog 88 88 (w.alloc (.cells #[.int .i64 (-1), .string ⟨#[]⟩, .int .i64 0, .bool false, .bool false] 92)) v (.slice (some ⟨w.heap.size, 0, none⟩) 1 1) = .ok v' w' ∧ Slc w' 92 5 v' (n + 1) (frc (l ++ [Fr.nil])) ∧ Only (ownB v) w w' ∧ (∀ g ∈ ownB v', g ∈ ownB v ∨ w.heap.size ≤ g) := by
  obtain ⟨i0, hi, hz0, hz1, hz2⟩ := info_parts info_rframe
  obtain ⟨v', w', h1, h2, h3, h4⟩ := append_slc (P := Try.prog) (h.alloc (.cells #[.int .i64 (-1), .string ⟨#[]⟩, .int .i64 0, .bool false, .bool false] 92)) 88 88 i0 _ 40 Try.underlying88 hi hz0 hz1 hz2 rfl (by omega)
    ⟨w.heap.size, 0, none⟩ 1 1 Fr.nil.cs rfl (cells_at (l := Fr.nil.cs) (Blk.new w _ #[.int .i64 (-1), .string ⟨#[]⟩, .int .i64 0, .bool false, .bool false]) 0 _ (by intro j u hu; rw [Nat.zero_add]; exact hu)) (by intro u hu; simp [Fr.cs, Fr.nil] at hu; rcases hu with rfl | rfl | rfl | rfl <;> rfl) (by unfold maxLen; omega) (by omega)
  refine ⟨v', w', h1, ?_, ((Only.refl _ _).alloc _).trans_of h3 (fun x hx _ => hx), fun g hg => (h4 g hg).imp id (fun h => by simp at h; omega)⟩
  rw [frc_append]
  exact h2
set_option maxRecDepth 100000 in
set_option maxHeartbeats 2000000 in
theorem rnew15_any {w : World} (sb k : Nat) (h2 : k ≤ 32) :
    Calls Try.prog 22 #[.pointer (some ⟨sb, 0, none⟩), .int .i64 (k : Nat)] w fun e w' => ∃ pb v, e = .returned (.pointer (some ⟨pb, 0, none⟩)) ∧ Blk w' pb 90 #[.pointer (some ⟨sb, 0, none⟩), v, .int .i64 0] ∧ Slc w' 92 5 v k (frc (List.replicate k Fr.nil)) ∧ Below w.heap.size w w' ∧ w.heap.size ≤ pb ∧ ∀ g ∈ ownB v, w.heap.size ≤ g := by
  have O0 := Lib.hid (belowAlloc (Below.refl w.heap.size w) (.cells #[.pointer (some ⟨sb, 0, none⟩), .slice none 0 0, .int .i64 0] 90))
  have B0 := Lib.hid (Blk.new w 90 #[.pointer (some ⟨sb, 0, none⟩), .slice none 0 0, .int .i64 0])
  go_enter Try.func22, Try.ntmps22
  go_wp2_with fail
  generalize hwa : w.alloc (.cells #[.pointer (some ⟨sb, 0, none⟩), .slice none 0 0, .int .i64 0] 90) = wa at *
  clear hwa
  go_loopw [6] (fun iv wr => ∃ i : Nat, i ≤ k ∧ iv = .int .i64 i ∧ ∃ v, Hid (Blk wr w.heap.size 90 #[.pointer (some ⟨sb, 0, none⟩), v, .int .i64 0]) ∧ Hid (Slc wr 92 5 v i (frc (List.replicate i Fr.nil))) ∧ Hid (Below w.heap.size w wr) ∧ Hid (∀ g ∈ ownB v, w.heap.size ≤ g)) (fun iv _ => k - (intOf iv).toNat)
  case atStart => exact ⟨0, Nat.zero_le _, rfl, .slice none 0 0, B0, Lib.hid (Slc.nil _ _ _), O0, Lib.hid (by simp [ownB])⟩
  case round =>
    obtain ⟨i, hi, rfl, v, BP, SP, OB, FR⟩ := hrel
    by_cases h : i < k
    · obtain ⟨A, cc, rfl⟩ := slc_val SP.out
      have c0 := BP.out.cell_some (i := 1) rfl
      obtain ⟨v2, w2, ea, S2, ow2, fr2⟩ := append_rnil SP.out (by omega)
      obtain ⟨A2, cc2, rfl⟩ := slc_val S2
      have BP2 := BP.out.only ow2 (slc_ne SP.out BP.out (by decide))
      have q0 := BP2.cell_some (i := 1) rfl
      have q1 := BP2.frozen 1 (by simp)
      have EA := Lib.hid ea
      have H3 := Lib.hid (show Blk (w2.setCell ⟨w.heap.size, 1, none⟩ (.slice A2 (i + 1) cc2)) w.heap.size 90 #[.pointer (some ⟨sb, 0, none⟩), .slice A2 (i + 1) cc2, .int .i64 0] ∧ Slc (w2.setCell ⟨w.heap.size, 1, none⟩ (.slice A2 (i + 1) cc2)) 92 5 (.slice A2 (i + 1) cc2) (i + 1) (frc (List.replicate (i + 1) Fr.nil)) ∧ Below w.heap.size w (w2.setCell ⟨w.heap.size, 1, none⟩ (.slice A2 (i + 1) cc2)) ∧ ∀ g ∈ ownB (.slice A2 (i + 1) cc2), w.heap.size ≤ g from by
        refine ⟨BP2.set_ 1 _, ?_, Below.setCell (OB.out.trans (ow2.below_of OB.out.size FR.out)) (p := ⟨w.heap.size, 1, none⟩) (Nat.le_refl _) _, fun g hg => (fr2 g hg).elim (FR.out g) (fun h => by have := OB.out.size; omega)⟩
        rw [show List.replicate (i + 1) Fr.nil = List.replicate i Fr.nil ++ [Fr.nil] from List.replicate_succ']
        exact S2.only ((Only.refl [w.heap.size] w2).setCell (p := ⟨w.heap.size, 1, none⟩) (by simp) _) (fun g hg hm => by simp at hm; subst hm; exact slc_ne S2 BP2 (by decide) hg))
      clear ea S2 ow2 fr2 BP2
      go_wp2_with fail
      rw [EA.out]
      go_wp2_with fail
      go_roundw
      case rel => exact ⟨i + 1, by omega, by go_num, .slice A2 (i + 1) cc2, Lib.hid H3.out.1, Lib.hid H3.out.2.1, Lib.hid H3.out.2.2.1, Lib.hid H3.out.2.2.2⟩
      case measure => simp [intOf]; omega
    · have e : i = k := by omega
      subst e
      go_wp2_with fail
      go_ret
      exact ⟨w.heap.size, v, by first | rfl | simp, BP.out, SP.out, OB.out, Nat.le_refl _, FR.out⟩
end Go.Proofs.Ytbelcgjbhpjnpaa.Sh
